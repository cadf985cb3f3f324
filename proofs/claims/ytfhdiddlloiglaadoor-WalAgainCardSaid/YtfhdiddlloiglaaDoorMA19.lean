/- Texts of this claim, one behind the other: G12, G13, G14. -/
import Derived.Test.YtfhdiddlloiglaaDoorMA17
import Derived.Lib.QuietBelow
import Derived.Test.YtfhdiddlloiglaaDoorMA18
import Derived.Test.YtfhdiddlloiglaaDoorMA2
section
/- The log is read. -/
namespace Go.Proofs.YtfhdiddlloiglaaDoor
open Go.RowKit Go.Proofs.YtfhdiddlloiglaaDoorW.PrintWords
attribute [local go_sem ↓] Go.wp_at_zero Go.wp_at_succ
set_option linter.unusedVariables false
set_option linter.unusedSimpArgs false
set_option maxRecDepth 100000

/-- What is logged, as it lies. -/
def ReadTo (w0 : World) (p : Nat) (d : Dsk) (L : List Res) (r : Int × Lgd) (e : Ending) (w' : World) : Prop :=
  ∃ vh vd, e = .returned (.tuple #[.agg #[.int .i64 r.2.turn, vh, vd], .int .i64 r.1]) ∧ St w0 w' (rRow 3 1 vh r.2.l.length (intsV (homesOf r.2.l)) :: rRow 5 1 vd (r.2.l.length * 256) (bytes (dataOf r.2.l)) :: rDisk p d :: L)
theorem ReadTo.bad {w0 w : World} {p : Nat} {d : Dsk} {L : List Res} {i : Int} {r : Int × Lgd} (H : St w0 w (rDisk p d :: L)) (hr : r = (i, ⟨0, []⟩)) : ReadTo w0 p d L r (.returned (.tuple #[.agg #[.int .i64 0, .slice none 0 0, .slice none 0 0], .int .i64 i])) w := by
  subst hr
  exact ⟨_, _, rfl, (H.noRow (e := 5)).noRow (e := 3)⟩
theorem size_alloc (w : World) (o : Obj) : (w.alloc o).heap.size = w.heap.size + 1 := by simp
def argsR (p : Nat) (a c : Int) (b3 b4 b5 : Nat) : List Res := [rCells b5 0 [.int .i64 c], rCells b4 0 [.int .i64 a], rCells b3 0 [.pointer (some ⟨p, 0, none⟩)]]
theorem args_cells {w0 w : World} {p b3 b4 b5 : Nat} {a c : Int} {L : List Res} (H : St w0 w (argsR p a c b3 b4 b5 ++ L)) : w.cell? ⟨b3, 0, none⟩ = some (.pointer (some ⟨p, 0, none⟩)) ∧ w.cell? ⟨b4, 0, none⟩ = some (.int .i64 a) ∧ w.cell? ⟨b5, 0, none⟩ = some (.int .i64 c) := by
  have H : St w0 w (rCells b5 0 [.int .i64 c] :: rCells b4 0 [.int .i64 a] :: rCells b3 0 [.pointer (some ⟨p, 0, none⟩)] :: L) := H
  exact ⟨H.drop.drop.rcells 0 _ rfl, H.drop.rcells 0 _ rfl, H.rcells 0 _ rfl⟩
theorem quiet_load {P : Program} {C : World → Prop} {o : Oper} {a : Act} {K : Act → Prop} {ty : TypeId} {x : Operand} {b off : Nat} {v : Value} (ho : o.op = .load ty x) (hx : a.eval x = .pointer (some ⟨b, off, none⟩)) (hr : ∀ w, C w → (loadVar ty ⟨b, off, none⟩).run P w = .ok v w) (hK : K (a.put o.dst v)) : o.quiet P a C K :=
  ⟨v, fun w hw => by
    unfold Oper.quietAt execOp
    simp only [ho, hx, Instr.loadAt, Instr.sureAddr, Sem.run_bind, Sem.run_pure, Result.andThen_ok, hr w hw]
    exact ⟨rfl, rfl⟩, hK⟩
theorem results_cell2 {P : Program} {fn : Func} {p t : Tmp} {ty : TypeId} (h : fn.results = #[.cell p ty, .tmp t]) (tmps : Array Value) (w : World) (b o : Nat) (cs : List Value) (d : TypeDesc)
    (hp : tmps.getD p undef = .pointer (some ⟨b, o, none⟩)) (hc : w.rangeAt b o cs) (hu : P.underlying ty = some d) (hd : d.isRow = true) (hi : (P.info? ty).map (·.size) = some cs.length) :
    (results fn tmps).run P w = .ok (.tuple #[.agg cs.toArray, tmps.getD t undef]) w := by
  have hp' : tmps[p]?.getD undef = .pointer (some ⟨b, o, none⟩) := by simpa using hp
  simp [results, h, hp', asAddr, run_loadVar_mid w b o ty cs d hc hu hd hi]
theorem St.set3 {w0 W : World} {b : Nat} {x y z u0 u1 u2 : Value} {e : TypeId} {M : List Res} (H : St w0 W (rBlk b (.cells #[x, y, z] e) :: M)) : St w0 (((W.setCell ⟨b, 0, none⟩ u0).setCell ⟨b, 1, none⟩ u1).setCell ⟨b, 2, none⟩ u2) (rBlk b (.cells #[u0, u1, u2] e) :: M) :=
  ((H.setCell 0 u0).setCell 1 u1).setCell 2 u2
theorem blk_range3 {w0 W : World} {b : Nat} {u0 u1 u2 : Value} {e : TypeId} {M : List Res} (H : St w0 W (rBlk b (.cells #[u0, u1, u2] e) :: M)) : W.rangeAt b 0 [u0, u1, u2] := fun j v hj => by
  rw [Nat.zero_add, cell_of_blk H.blk]
  rw [← hj]
  simp
theorem Dsk.Ok.sec_at {d : Dsk} (h : d.Ok) {i : Nat} (hi : i < d.vals.length) : SecOk (lastOf (d.vals.getD i [])) := by
  rw [List.getD_eq_getElem?_getD, List.getElem?_eq_getElem hi]
  have hm := List.getElem_mem hi
  exact h.sec _ hm _ (lastOf_mem (h.ne _ hm))
theorem getAt_lt2 {b : Sec} (h : SecOk b) {i : Nat} : 0 ≤ getAt b i 2 ∧ getAt b i 2 < 65536 := by
  have hb : Bytes ((b.drop i).take 2) := fun x hx => h.2 x (List.mem_of_mem_drop (List.mem_of_mem_take hx))
  have h1 := unle_nonneg hb
  have h2 := unle_lt hb
  refine ⟨h1, ?_⟩
  have h3 : ((b.drop i).take 2).length ≤ 2 := List.length_take_le _ _
  have : ((b.drop i).take 2).length = 0 ∨ ((b.drop i).take 2).length = 1 ∨ ((b.drop i).take 2).length = 2 := by omega
  show unle _ < _
  rcases this with e | e | e <;> rw [e] at h2 <;> omega
theorem getAt_lt4 {b : Sec} (h : SecOk b) {i : Nat} : 0 ≤ getAt b i 4 ∧ getAt b i 4 < 4294967296 := by
  have hb : Bytes ((b.drop i).take 4) := fun x hx => h.2 x (List.mem_of_mem_drop (List.mem_of_mem_take hx))
  have h1 := unle_nonneg hb
  have h2 := unle_lt hb
  refine ⟨h1, ?_⟩
  have h3 : ((b.drop i).take 4).length ≤ 4 := List.length_take_le _ _
  have : ((b.drop i).take 4).length = 0 ∨ ((b.drop i).take 4).length = 1 ∨ ((b.drop i).take 4).length = 2 ∨ ((b.drop i).take 4).length = 3 ∨ ((b.drop i).take 4).length = 4 := by omega
  show unle _ < _
  rcases this with e | e | e | e | e <;> rw [e] at h2 <;> omega
theorem St.rdRowI {w0 w : World} {L : List Res} {A : Option Addr} {n c : Nat} {l : List Int} (H : St w0 w (rRow 3 1 (.slice A n c) n (intsV l) :: L)) (hn : l.length = n) (hn2 : n ≤ 1048576) : RdI w A l := by
  rcases Nat.eq_zero_or_pos n with h0 | h0
  · subst h0
    rw [List.length_eq_zero_iff.1 hn]
    exact ⟨rfl, by simp, fun h => absurd h (by simp)⟩
  · obtain ⟨g, c', e, _⟩ := H.row.form (by omega)
    injection e with e1 e2 e3
    subst e1
    obtain ⟨T, S, h, _⟩ := H.rowCells.fst
    exact h.1.rdI (by omega)
theorem get_L {w : World} {A : Option Addr} {n c i k : Nat} {b : List Int} {ii kk : Int} (hii : ii = (i : Int)) (hkk : kk = (k : Int)) (hb : Rd w A b) (hn : b.length = n) (hby : Bytes b) (hk : 1 ≤ k ∧ k ≤ 4) (hi : i + k ≤ n) (hn2 : n ≤ 1048576) :
    Calls Tryd.prog 52 #[.slice A n c, .int .i64 ii, .int .i64 kk] w fun e w' => e = .returned (.tuple #[.int .i64 (getAt b i k), .int .i64 0]) ∧ w' = w := by
  subst hii hkk
  exact get_calls hb hn hby hk hi hn2
theorem St.readRow {w0 w : World} {p : Nat} {d : Dsk} {L M : List Res} {i : Nat} {ii : Int} (H : St w0 w (rDisk p d :: L)) (hM : St w0 w M) (hii : ii = (i : Int)) (hi : i < d.vals.length) (hoff : d.off = false) :
    Calls Tryd.prog 19 #[.pointer (some ⟨p, 0, none⟩), .int .i64 ii] w fun e w' => ∃ g c, e = .returned (.tuple #[.slice (some ⟨g, 0, none⟩) 256 c, .int .i64 0]) ∧ St w0 w' (rRow 5 1 (.slice (some ⟨g, 0, none⟩) 256 c) 256 (bytes (lastOf (d.vals.getD i []))) :: M) := by
  subst hii
  have hs := H.diskOk.sec_at hi
  have hr : d.read (i : Int) = (lastOf (d.vals.getD i []), 0) := by
    unfold Dsk.read
    rw [if_neg (by omega), if_neg (by simp [hoff]), Int.toNat_natCast]
  have h := H.read (i : Int)
  rw [hr] at h
  refine h.mono ?_
  rintro e w' ⟨v, rfl, hrow, hb⟩
  have hl : (lastOf (d.vals.getD i [])).length = 256 := hs.1
  rw [hl] at hrow
  obtain ⟨g, c, e, _⟩ := hrow.form (by omega)
  subst e
  exact ⟨g, c, rfl, hM.gainRow hb hrow⟩
theorem St.readOff {w0 w : World} {p : Nat} {d : Dsk} {L M : List Res} {i : Nat} {ii : Int} (H : St w0 w (rDisk p d :: L)) (hM : St w0 w M) (hii : ii = (i : Int)) (hi : i < d.vals.length) (hoff : d.off = true) :
    Calls Tryd.prog 19 #[.pointer (some ⟨p, 0, none⟩), .int .i64 ii] w fun e w' => ∃ v, e = .returned (.tuple #[v, .int .i64 10]) ∧ St w0 w' M := by
  subst hii
  have hr : d.read (i : Int) = ([], 10) := by
    unfold Dsk.read
    rw [if_neg (by omega), if_pos hoff]
  have h := H.read (i : Int)
  rw [hr] at h
  refine h.mono ?_
  rintro e w' ⟨v, rfl, hrow, hb⟩
  exact ⟨v, rfl, hM.go hb⟩
theorem dropArgs {w0 w : World} {p b3 b4 b5 : Nat} {a c : Int} {d : Dsk} {L : List Res} (H : St w0 w (rDisk p d :: argsR p a c b3 b4 b5 ++ L)) : St w0 w (rDisk p d :: L) := by
  have H : St w0 w (rDisk p d :: rCells b5 0 [.int .i64 c] :: rCells b4 0 [.int .i64 a] :: rCells b3 0 [.pointer (some ⟨p, 0, none⟩)] :: L) := H
  exact (St.swap (St.swap (St.swap H).drop).drop).drop
theorem info62 : (Tryd.prog.info? 62).map (·.size) = some 3 := by kernel_rfl
theorem logged_eq {d : Dsk} {a c : Int} {ai m : Nat} {b : Sec} (hp : place d.vals.length a c) (hoff : d.off = false) (hai : a = (ai : Int)) (hb : b = lastOf (d.vals.getD ai [])) (hm : getAt b 8 2 = (m : Int)) :
    logged d a c = if c < (m : Int) then (40, ⟨0, []⟩) else if (∀ x ∈ homesOf (entries d a b m), a + c < x ∧ x < d.vals.length) ∧ Rising (homesOf (entries d a b m)) ∧ lhdr (getAt b 4 4) (homesOf (entries d a b m)) (dataOf (entries d a b m)) = b then (0, ⟨getAt b 4 4, entries d a b m⟩) else (40, ⟨0, []⟩) := by
  unfold logged
  rw [if_neg (fun h => h hp), if_neg (by rw [hoff]; decide)]
  have e1 : lastOf (d.vals.getD a.toNat []) = b := by rw [hai, Int.toNat_natCast, hb]
  rw [e1]
  have e2 : (getAt b 8 2).toNat = m := by rw [hm, Int.toNat_natCast]
  show (if c < (((getAt b 8 2).toNat : Nat) : Int) then _ else _) = _
  rw [e2]
theorem entries_succ (d : Dsk) (a : Int) (b : Sec) (j : Nat) : entries d a b (j + 1) = entries d a b j ++ [(getAt b (10 + 2 * j) 2, lastOf (d.vals.getD (a + 1 + j).toNat []))] := by
  unfold entries
  rw [List.range_succ, List.map_append]; rfl
theorem entries_len (d : Dsk) (a : Int) (b : Sec) (j : Nat) : (entries d a b j).length = j := by simp [entries]
def RL (p : Nat) (d : Dsk) (a c : Int) (b3 b4 b5 b6 xb gb cb : Nat) (b : Sec) (tv : Int) (vh vd : Value) (j : Nat) (L : List Res) : List Res :=
  rBlk xb (.cells #[.int .i64 tv, vh, vd] 62) :: rRow 3 1 vh j (intsV (homesOf (entries d a b j))) :: rRow 5 1 vd (j * 256) (bytes (dataOf (entries d a b j))) :: rRow 5 1 (.slice (some ⟨gb, 0, none⟩) 256 cb) 256 (bytes b) ::
    rBlk b6 (.cells #[.int .i64 0, .slice none 0 0, .slice none 0 0] 62) :: rDisk p d :: argsR p a c b3 b4 b5 ++ L
section
variable {w0 w : World} {p : Nat} {d : Dsk} {L : List Res}
set_option maxHeartbeats 6000000 in
theorem St.readLog (H : St w0 w (rDisk p d :: L)) (hT : Half w0) (a c : Int) (ha : -9223372036854775808 ≤ a ∧ a ≤ 9223372036854775807) : Calls Tryd.prog 28 #[.pointer (some ⟨p, 0, none⟩), .int .i64 a, .int .i64 c] w fun e w' => ReadTo w0 p d L (logged d a c) e w' := by
  have H1 := (((H.alloc (.cells #[.pointer (some ⟨p, 0, none⟩)] 25)).alloc (.cells #[.int .i64 a] 3)).alloc (.cells #[.int .i64 c] 3)).alloc (.cells #[.int .i64 0, .slice none 0 0, .slice none 0 0] 62)
  obtain ⟨b3, hb3⟩ : ∃ b, b = w.heap.size := ⟨_, rfl⟩
  simp only [size_alloc] at H1
  rw [← hb3] at H1
  have hn1 := H.diskOk.n1
  have HT := Aside0.mk hT
  clear H hT
  go_enter Tryd.func28, Tryd.ntmps28
  go_upto_region 1 with fail
  rw [← hb3]
  clear hb3
  generalize (((w.alloc (.cells #[.pointer (some ⟨p, 0, none⟩)] 25)).alloc (.cells #[.int .i64 a] 3)).alloc (.cells #[.int .i64 c] 3)).alloc (.cells #[.int .i64 0, .slice none 0 0, .slice none 0 0] 62) = W1 at H1 ⊢
  generalize b3 + 1 + 1 + 1 = b6 at H1 ⊢
  generalize b3 + 1 + 1 = b5 at H1 ⊢
  generalize b3 + 1 = b4 at H1 ⊢
  have H2 : St w0 W1 (rBlk b6 (.cells #[.int .i64 0, .slice none 0 0, .slice none 0 0] 62) :: rDisk p d :: argsR p a c b3 b4 b5 ++ L) := St.rot5 (St.rot5 (St.blkCells (St.rot4 (St.blkCells (St.rot4 (St.blkCells (St.rot4 H1)))))))
  obtain ⟨k3, k4, k5⟩ := args_cells H2.drop.drop
  have HS := Aside0.mk H2.drop.sectors
  have HP := Aside0.mk (H2.drop.placeC a c ha)
  obtain ⟨n, hn⟩ : ∃ n, n = d.vals.length := ⟨_, rfl⟩
  have q0 : ((n : Int) == 0) = false := by simp; omega
  have HN := Aside0.mk hn
  have f6 := fun k => free_of_blk H2.blk k
  have c6 := H2.blk
  have c60 := cell_of_blk c6 0
  have c61 := cell_of_blk c6 1
  have c62 := cell_of_blk c6 2
  have f60 := f6 0
  have f61 := f6 1
  have f62 := f6 2
  rw [← hn] at HS HP hn1
  clear H1 hn f6 c6
  have H2 := Aside0.mk H2
  by_cases hpl : place n a c
  · have q1 : decide (place n a c) = true := decide_eq_true hpl
    rw [q1] at HP
    obtain ⟨hc1, hc2, ha1, ha2⟩ := hpl
    go_wp2_with fail
    refine HS.out.mono ?_
    rintro e w1 ⟨rfl, rfl⟩
    go_wp2_with fail
    refine HP.out.mono ?_
    rintro e w1 ⟨rfl, rfl⟩
    clear HS HP q1 q0
    obtain ⟨ai, hai⟩ : ∃ ai : Nat, a = (ai : Int) := ⟨a.toNat, by omega⟩
    have hil : ai < d.vals.length := by rw [← HN.out]; omega
    have HAI := Aside0.mk hai
    have HIL := Aside0.mk hil
    by_cases hoff : d.off = true
    · have hr : logged d a c = (10, ⟨0, []⟩) := by unfold logged; rw [← HN.out, if_neg (by unfold place; omega), if_pos hoff]
      have HR := Aside0.mk hr
      have HRD := Aside0.mk (H2.out.drop.readOff H2.out hai hil hoff)
      have b10 : ((10 : Int) != 0) = true := by decide
      clear hr hai hil hoff c60 c61 c62 f60 f61 f62
      go_wp2_with fail
      refine HRD.out.mono ?_
      rintro e w2 ⟨v, rfl, H3⟩
      have f60 := free_of_blk H3.blk 0
      have f61 := free_of_blk H3.blk 1
      have f62 := free_of_blk H3.blk 2
      have c60 := cell_of_blk H3.blk 0
      have c61 := cell_of_blk H3.blk 1
      have c62 := cell_of_blk H3.blk 2
      have H3 := Aside0.mk H3
      clear HRD k3 k4 k5
      go_wp2
      refine bodyPost_ret (results_cell2 (p := 6) (t := 7) rfl _ _ b6 0 [_, _, _] _ rfl (blk_range3 H3.out.set3) Tryd.underlying62 rfl info62) rfl ?_
      exact ReadTo.bad (dropArgs H3.out.set3.drop) HR.out
    · have hoff : d.off = false := by simpa using hoff
      have HRD := Aside0.mk (H2.out.drop.readRow H2.out hai hil hoff)
      have HOF := Aside0.mk hoff
      obtain ⟨b, hb⟩ : ∃ b, b = lastOf (d.vals.getD ai []) := ⟨_, rfl⟩
      have hbs : SecOk b := by rw [hb]; exact H2.out.drop.diskOk.sec_at hil
      have HBS := Aside0.mk hbs
      rw [← hb] at HRD
      have HBB := Aside0.mk hb
      clear hai hil hoff c60 c61 c62 f60 f61 f62 hbs hb
      go_wp2_with fail
      refine HRD.out.mono ?_
      rintro e w2 ⟨gb, cb, rfl, H3⟩
      clear HRD k3 k4 k5
      have H3 := Aside0.mk H3
      obtain ⟨xb, hxb⟩ : ∃ xb, xb = w2.heap.size := ⟨_, rfl⟩
      have H4 := H3.out.alloc (.cells #[.int .i64 0, .slice none 0 0, .slice none 0 0] 62)
      rw [← hxb] at H4
      have hg1 := Aside0.mk (get_L (i := 4) (k := 4) (ii := 4) (kk := 4) (c := cb) rfl rfl (H4.drop.rdRow HBS.out.1) HBS.out.1 HBS.out.2 (by omega) (by omega) (by omega))
      have f0 : (w2.alloc (.cells #[.int .i64 0, .slice none 0 0, .slice none 0 0] 62)).frozen? ⟨xb, 0, none⟩ = false := free_of_blk H4.blk 0
      have s0 : (w2.alloc (.cells #[.int .i64 0, .slice none 0 0, .slice none 0 0] 62)).cell? ⟨xb, 0, none⟩ = some (.int .i64 0) := cell_of_blk H4.blk 0
      obtain ⟨tv, htv⟩ : ∃ tv, tv = getAt b 4 4 := ⟨_, rfl⟩
      rw [← htv] at hg1
      have H5 : St w0 ((w2.alloc (.cells #[.int .i64 0, .slice none 0 0, .slice none 0 0] 62)).setCell ⟨xb, 0, none⟩ (.int .i64 tv)) (rBlk xb (.cells #[.int .i64 tv, .slice none 0 0, .slice none 0 0] 62) :: rRow 5 1 (.slice (some ⟨gb, 0, none⟩) 256 cb) 256 (bytes b) :: rBlk b6 (.cells #[.int .i64 0, .slice none 0 0, .slice none 0 0] 62) :: rDisk p d :: argsR p a c b3 b4 b5 ++ L) := H4.setCell 0 (.int .i64 tv)
      have HTV := Aside0.mk htv
      have HXB := Aside0.mk hxb
      have H5 := Aside0.mk H5
      clear H4 htv
      go_wp2_with fail
      rw [← HXB.out]
      refine hg1.out.mono ?_
      rintro e w3 ⟨rfl, rfl⟩
      clear hg1
      clear hxb
      have hg2 := Aside0.mk (get_L (i := 8) (k := 2) (ii := 8) (kk := 2) (c := cb) rfl rfl (H5.out.drop.rdRow HBS.out.1) HBS.out.1 HBS.out.2 (by omega) (by omega) (by omega))
      have hmr : 0 ≤ getAt b 8 2 ∧ getAt b 8 2 < 65536 := getAt_lt2 HBS.out
      obtain ⟨m, hm⟩ : ∃ m : Nat, getAt b 8 2 = (m : Int) := ⟨(getAt b 8 2).toNat, by omega⟩
      rw [hm] at hg2 hmr
      have HM := Aside0.mk hm
      clear hm
      go_wp2_with fail
      generalize hW : (w2.alloc (.cells #[.int .i64 0, .slice none 0 0, .slice none 0 0] 62)).setCell ⟨xb, 0, none⟩ (.int .i64 tv) = W5 at *
      refine hg2.out.mono ?_
      rintro e w3 ⟨rfl, rfl⟩
      clear hg2 f0 s0 hW
      obtain ⟨k3, k4, k5⟩ := args_cells H5.out.drop.drop.drop.drop
      by_cases hcm : c < (m : Int)
      · have q1 : decide (c < (m : Int)) = true := decide_eq_true hcm
        have hr : logged d a c = (40, ⟨0, []⟩) := by
          rw [logged_eq (by rw [← HN.out]; exact ⟨hc1, hc2, ha1, ha2⟩) HOF.out HAI.out HBB.out HM.out, if_pos hcm]
        have HR := Aside0.mk hr
        have f60 := free_of_blk H5.out.drop.drop.blk 0
        have f61 := free_of_blk H5.out.drop.drop.blk 1
        have f62 := free_of_blk H5.out.drop.drop.blk 2
        have c60 := cell_of_blk H5.out.drop.drop.blk 0
        have c61 := cell_of_blk H5.out.drop.drop.blk 1
        have c62 := cell_of_blk H5.out.drop.drop.blk 2
        clear hr
        go_wp2
        refine bodyPost_ret (results_cell2 (p := 6) (t := 7) rfl _ _ b6 0 [_, _, _] _ rfl (blk_range3 H5.out.drop.drop.set3) Tryd.underlying62 rfl info62) rfl ?_
        exact ReadTo.bad (dropArgs H5.out.drop.drop.set3.drop) HR.out
      · have q1 : decide (c < (m : Int)) = false := decide_eq_false hcm
        have hm100 : m ≤ 100 := by omega
        have H6 : Aside0 (St w0 w3 (RL p d a c b3 b4 b5 b6 xb gb cb b tv (.slice none 0 0) (.slice none 0 0) 0 L)) := ⟨St.rot3 ((H5.out.noRow (e := 3)).noRow (e := 5)) |> fun h => by
          have h1 := St.rot3 h
          exact St.swap h1⟩
        clear H5
        go_wp2_with fail
        clear k3 k4 k5 q1
        go_loopw [57] (fun v57 W => ∃ (j : Nat) (Ah : Option Addr) (ch : Nat) (Ad : Option Addr) (cd : Nat), v57 = .int .i64 (j : Int) ∧ j ≤ m ∧ Aside0 (St w0 W (RL p d a c b3 b4 b5 b6 xb gb cb b tv (.slice Ah j ch) (.slice Ad (j * 256) cd) j L)) ∧ Aside0 (Ah = none ∨ ∃ g, Ah = some ⟨g, 0, none⟩)) (fun v57 _ => m - (RowKit.intOf v57).toNat)
        case atStart => exact ⟨0, none, 0, none, 0, rfl, Nat.zero_le _, H6, ⟨.inl rfl⟩⟩
        case round =>
          clear H6
          obtain ⟨j, Ah, ch, Ad, cd, rfl, hj, HJ, HF⟩ := hrel
          have hnn := HJ.out.drop.drop.drop.drop.drop.diskOk.n2
          rw [← HN.out] at hnn
          by_cases hjm : j < m
          · have t1 : decide ((j : Int) < (m : Int)) = true := decide_eq_true (by omega)
            have t1' : (j : Int) < (m : Int) := by omega
            go_upto_block 2 with fail
            go_cut [57] (fun v57 W => v57 = .int .i64 (j : Int) ∧ ∃ gh ch gd cd : Nat, Aside0 (St w0 W (RL p d a c b3 b4 b5 b6 xb gb cb b tv (.slice (some ⟨gh, 0, none⟩) (j + 1) ch) (.slice (some ⟨gd, 0, none⟩) ((j + 1) * 256) cd) (j + 1) L)))
            case first =>
              have wr1 : wrap64 (2 * (j : Int)) = 2 * (j : Int) := by unfold wrap64; omega
              have wr2 : wrap64 (10 + 2 * (j : Int)) = 10 + 2 * (j : Int) := by unfold wrap64; omega
              have wr3 : wrap64 (a + 1) = a + 1 := by unfold wrap64; omega
              have wr4 : wrap64 (a + 1 + (j : Int)) = a + 1 + (j : Int) := by unfold wrap64; omega
              obtain ⟨h, hh⟩ : ∃ h, h = getAt b (10 + 2 * j) 2 := ⟨_, rfl⟩
              have hgj := Aside0.mk (get_L (i := 10 + 2 * j) (k := 2) (ii := 10 + 2 * (j : Int)) (kk := 2) (c := cb) (by omega) rfl (HJ.out.drop.drop.drop.rdRow HBS.out.1) HBS.out.1 HBS.out.2 (by omega) (by omega) (by omega))
              rw [← hh] at hgj
              have hai := HAI.out
              have hlt : ai + 1 + j < d.vals.length := by rw [← HN.out]; omega
              have hrj := Aside0.mk (HJ.out.drop.drop.drop.drop.drop.readRow HJ.out (ii := a + 1 + (j : Int)) (i := ai + 1 + j) (by omega) hlt HOF.out)
              obtain ⟨s, hs⟩ : ∃ s, s = lastOf (d.vals.getD (ai + 1 + j) []) := ⟨_, rfl⟩
              have hsec : SecOk s := by rw [hs]; exact HJ.out.drop.drop.drop.drop.drop.diskOk.sec_at hlt
              rw [← hs] at hrj
              have hes : entries d a b (j + 1) = entries d a b j ++ [(h, s)] := by
                rw [entries_succ, ← hh, show (a + 1 + (j : Int)).toNat = ai + 1 + j by omega, ← hs]
              have HES := Aside0.mk hes
              have HSEC := Aside0.mk hsec
              obtain ⟨k3, k4, k5⟩ := args_cells HJ.out.drop.drop.drop.drop.drop.drop
              clear hh hai hlt hs hsec hes
              go_wp2_with fail
              refine hgj.out.mono ?_
              rintro e w4 ⟨rfl, rfl⟩
              clear hgj
              go_wp2_with fail
              refine hrj.out.mono ?_
              rintro e W6 ⟨gs, cs, rfl, H7⟩
              clear hrj k3 k4 k5 HJ wr1 wr2 wr3 wr4
              have H7 := Aside0.mk H7.rowCells
              go_upto_region 18 with fail
              as_aux_lemma =>
                have H8 : St w0 W6.drew (rCells gs 0 (bytes s) :: rBlk xb (.cells #[.int .i64 tv, .slice Ah j ch, .slice Ad (j * 256) cd] 62) :: rRow 3 1 (.slice Ah j ch) j (intsV (homesOf (entries d a b j))) :: rRow 5 1 (.slice Ad (j * 256) cd) (j * 256) (bytes (dataOf (entries d a b j))) :: rRow 5 1 (.slice (some ⟨gb, 0, none⟩) 256 cb) 256 (bytes b) ::
                  rBlk b6 (.cells #[.int .i64 0, .slice none 0 0, .slice none 0 0] 62) :: rDisk p d :: argsR p a c b3 b4 b5 ++ L) := H7.out.drew
                have m1 : ∀ W M, St w0 W (rBlk xb (.cells #[.int .i64 tv, .slice Ah j ch, .slice Ad (j * 256) cd] 62) :: M) → W.cell? ⟨xb, 1, none⟩ = some (.slice Ah j ch) ∧ W.cell? ⟨xb, 2, none⟩ = some (.slice Ad (j * 256) cd) := fun W M h => ⟨cell_of_blk h.blk 1, cell_of_blk h.blk 2⟩
                obtain ⟨a2, a3⟩ := m1 _ _ H8.drop
                have hz : W6.drew.heap.size = W6.heap.size := rfl
                have HB := H8.alloc (.cells #[.int .i64 h] 3)
                have hw1 : W6.drew.alloc (.cells #[.int .i64 h] 3) = (W6.alloc (.cells #[.int .i64 h] 3)).drew := rfl
                rw [hz, hw1] at HB
                have hcb : (W6.alloc (.cells #[.int .i64 h] 3)).drew.cell? ⟨W6.heap.size, 0, none⟩ = some (.int .i64 h) := cell_of_blk HB.blk 0
                obtain ⟨e2, e3⟩ := m1 _ _ HB.drop.drop
                obtain ⟨gh, ch', W2, fh, H2⟩ := (St.rot3 HB.drop).appI hcb (by omega)
                obtain ⟨g2, g3⟩ := m1 _ _ H2.drop.drop
                have hsrc := H2.drop.rcells
                obtain ⟨gd, cd', W3, fd, H3⟩ := (St.rot4 H2).appB (c2 := cs) HSEC.out.1 hsrc (by omega)
                have hblk3 := H3.drop.drop.drop.blk
                have s1 : W3.cell? ⟨xb, 1, none⟩ = some (.slice Ah j ch) := cell_of_blk hblk3 1
                have s2 : W3.cell? ⟨xb, 2, none⟩ = some (.slice Ad (j * 256) cd) := cell_of_blk hblk3 2
                have z1 : W3.frozen? ⟨xb, 1, none⟩ = false := free_of_blk hblk3 1
                have z2 : W3.frozen? ⟨xb, 2, none⟩ = false := free_of_blk hblk3 2
                have x1 : homesOf (entries d a b j) ++ [h] = homesOf (entries d a b (j + 1)) := by rw [HES.out, homesOf, homesOf, List.map_append]; rfl
                have x2 : dataOf (entries d a b j) ++ s = dataOf (entries d a b (j + 1)) := by rw [HES.out, dataOf, dataOf, List.flatMap_append]; simp
                have x3 : j * 256 + 256 = (j + 1) * 256 := by omega
                rw [x1, x2, x3] at H3
                have H4 := ((St.rot4 H3).setCell 1 (.slice (some ⟨gh, 0, none⟩) (j + 1) ch')).setCell 2 (.slice (some ⟨gd, 0, none⟩) ((j + 1) * 256) cd')
                rw [x3] at fd
                have H5 := Aside0.mk (St.swap (St.rot3 (St.rot4 H4).drop))
                clear x1 x2 x3 H8 m1 HB hcb hw1 H2 hsrc hblk3 H3 H4 H7 hz HES HSEC t1 t1' HF HT HN HBS HAI HIL HOF HBB HTV HXB HM ha hn1 hc1 hc2 ha1 ha2 hcm hm100 hjm hj hnn hmr
                go_region_law ((first
                  | (refine step_appT rfl (.tmp 78) (.tmp 80) rfl rfl fh rfl rfl ?_)
                  | (refine step_appT rfl (.tmp 83) (.tmp 84) rfl rfl fd rfl rfl ?_)))
                all_goals (
                  go_wp2
                  go_meet
                  exact ⟨rfl, gh, ch', gd, cd', H5⟩)
            case rest =>
              obtain ⟨rfl, gh, ch', gd, cd', HC⟩ := hcut
              clear HJ
              go_wp2
              go_roundw
              case rel => exact ⟨j + 1, some ⟨gh, 0, none⟩, ch', some ⟨gd, 0, none⟩, cd', by go_num, hjm, HC, ⟨.inr ⟨gh, rfl⟩⟩⟩
              case measure => simp only [RowKit.intOf]; omega
          · have hjm2 : j = m := by omega
            subst hjm2
            have t1 : decide ((j : Int) < (j : Int)) = false := decide_eq_false (by omega)
            obtain ⟨es, hes⟩ : ∃ es, es = entries d a b j := ⟨_, rfl⟩
            have hlen : es.length = j := by rw [hes, entries_len]
            have hlh : (homesOf es).length = j := by rw [homesOf, List.length_map, hlen]
            have hsx : ∀ x ∈ es, SecOk x.2 ∧ 0 ≤ x.1 ∧ x.1 < 65536 := fun x hx => by
              rw [hes] at hx
              obtain ⟨i, hi, rfl⟩ := List.mem_map.1 hx
              have hi2 := List.mem_range.1 hi
              have hnv := HN.out
              exact ⟨HJ.out.drop.drop.drop.drop.drop.diskOk.sec_at (by omega), getAt_lt2 HBS.out⟩
            have hmem : ∀ y ∈ homesOf es, 0 ≤ y ∧ y < 65536 := fun y hy => by
              obtain ⟨x, hx, rfl⟩ := List.mem_map.1 hy
              exact (hsx x hx).2
            have hby : Bytes (dataOf es) := fun y hy => by
              obtain ⟨x, hx, hy⟩ := List.mem_flatMap.1 hy
              exact (hsx x hx).1.2 y hy
            have hld : (dataOf es).length = j * 256 := by rw [flat_secs es fun x hx => (hsx x hx).1.1, hlen]
            have htr := getAt_lt4 HBS.out (i := 4)
            rw [← HTV.out] at htr
            have HJ2 := HJ.out
            unfold RL at HJ2
            rw [← hes] at HJ2
            have hR1 : RdI wr Ah (homesOf es) := HJ2.drop.rdRowI hlh (by omega)
            have hR2 : Rd wr Ad (dataOf es) := HJ2.drop.drop.rdRow hld
            obtain ⟨k3, k4, k5⟩ := args_cells HJ2.drop.drop.drop.drop.drop.drop
            have hnr : Aside0 (n ≤ 4096) := ⟨hnn⟩
            have hlog := logged_eq (d := d) (a := a) (c := c) (ai := ai) (m := j) (b := b) (by rw [← HN.out]; exact ⟨hc1, hc2, ha1, ha2⟩) HOF.out HAI.out HBB.out HM.out
            rw [if_neg (show ¬ c < ((j : Nat) : Int) by omega), ← hes, ← HN.out, ← HTV.out] at hlog
            obtain ⟨good, hgood⟩ : ∃ good, good = ((∀ x ∈ homesOf es, a + c < x ∧ x < (n : Int)) ∧ Rising (homesOf es) ∧ lhdr tv (homesOf es) (dataOf es) = b) := ⟨_, rfl⟩
            have hany : (homesOf es).any (outB n a c) = true ↔ ¬ (∀ x ∈ homesOf es, a + c < x ∧ x < (n : Int)) := by
              rw [List.any_eq_true]
              constructor
              · rintro ⟨x, hx, ho⟩ hall
                have := hall x hx
                simp only [outB, Bool.or_eq_true, decide_eq_true_eq] at ho
                omega
              · intro hno
                refine Classical.byContradiction fun hno2 => hno fun x hx => ?_
                refine Classical.byContradiction fun hbad => hno2 ⟨x, hx, ?_⟩
                simp only [outB, Bool.or_eq_true, decide_eq_true_eq]
                omega
            have HANY := Aside0.mk hany
            have HLOG := Aside0.mk hlog
            have HGOOD := Aside0.mk hgood
            have HSX := Aside0.mk hsx
            have HMEM := Aside0.mk hmem
            have HBY := Aside0.mk hby
            have HLD := Aside0.mk hld
            have HLH := Aside0.mk hlh
            have HTR := Aside0.mk htr
            have HD := Aside0.mk HJ2.drew
            have HJ3 := Aside0.mk HJ2
            have HR1 := Aside0.mk hR1
            have su1 : ∀ W, Below wr.heap.size wr W → Calls Tryd.prog 54 #[.slice Ah j ch, .func (.func 53) #[] #[.pointer (some ⟨b4, 0, none⟩), .pointer (some ⟨b5, 0, none⟩), .pointer (some ⟨b3, 0, none⟩)]] W fun e w' => e = .returned (.bool ((homesOf es).any (outB n a c))) ∧ Below W.heap.size W w' := fun W hW => by
              have h5 := HJ3.out.go hW
              obtain ⟨k3, k4, k5⟩ := args_cells h5.drop.drop.drop.drop.drop.drop
              have := contains_calls (b1 := b4) (b2 := b5) (b3 := b3) h5.drop.drop.drop.drop.drop a c (n := j) (cc := ch) (A := Ah) k4 k5 k3 ⟨ha1, by omega⟩ ⟨by omega, hc2⟩ (l := homesOf es) (Kd.C_below HR1.out hW) HLH.out (HF.out.imp id fun ⟨g, e⟩ => ⟨g, 0, e⟩)
              rwa [← HN.out] at this
            have su2 : ∀ W, Below wr.heap.size wr W → Calls Tryd.prog 55 #[.slice Ah j ch] W fun e w' => e = .returned (.bool (decide (Rising (homesOf es)))) ∧ Below W.heap.size W w' := fun W hW => rising_calls (Kd.C_below HR1.out hW) HLH.out (by omega)
            have HR2 := Aside0.mk hR2
            clear hany hlog hgood hsx hmem hby hld hlh htr hR1 hR2 HJ HJ2 k3 k4 k5 hlen hes hnn
            go_wp2_with fail
            go_cut [112] (fun v112 W => ∃ bad : Bool, v112 = .bool bad ∧ Aside0 (bad = false ↔ good) ∧ Aside0 (St w0 W (rBlk xb (.cells #[.int .i64 tv, .slice Ah j ch, .slice Ad (j * 256) cd] 62) :: rRow 3 1 (.slice Ah j ch) j (intsV (homesOf es)) :: rRow 5 1 (.slice Ad (j * 256) cd) (j * 256) (bytes (dataOf es)) :: rRow 5 1 (.slice (some ⟨gb, 0, none⟩) 256 cb) 256 (bytes b) ::
                  rBlk b6 (.cells #[.int .i64 0, .slice none 0 0, .slice none 0 0] 62) :: rDisk p d :: argsR p a c b3 b4 b5 ++ L)))
            case first =>
              have hS : ∀ W M, St w0 W (rBlk xb (.cells #[.int .i64 tv, .slice Ah j ch, .slice Ad (j * 256) cd] 62) :: M) → W.cell? ⟨xb, 1, none⟩ = some (.slice Ah j ch) ∧ W.cell? ⟨xb, 2, none⟩ = some (.slice Ad (j * 256) cd) ∧ W.cell? ⟨xb, 0, none⟩ = some (.int .i64 tv) := fun W M h => ⟨cell_of_blk h.blk 1, cell_of_blk h.blk 2, cell_of_blk h.blk 0⟩
              have K0 := hS _ _ HJ3.out
              have r1 : ∀ d os, Calls Tryd.prog 54 #[.slice Ah j ch, .func (.func 53) #[] #[.pointer (some ⟨b4, 0, none⟩), .pointer (some ⟨b5, 0, none⟩), .pointer (some ⟨b3, 0, none⟩)]] (Sort.grow (redrawn wr d) os) fun e w'' => e = .returned (.bool ((homesOf es).any (outB n a c))) ∧ ∃ p : Regrown, w'' = Sort.grow (redrawn wr p.d) p.os := fun d os => Calls.regrown_of (su1 _ (below_regrown wr d os))
              have r2 : ∀ d os, Calls Tryd.prog 55 #[.slice Ah j ch] (Sort.grow (redrawn wr d) os) fun e w'' => e = .returned (.bool (decide (Rising (homesOf es)))) ∧ ∃ p : Regrown, w'' = Sort.grow (redrawn wr p.d) p.os := fun d os => Calls.regrown_of (su2 _ (below_regrown wr d os))
              clear hS su1 su2
              by_cases hA : (homesOf es).any (outB n a c) = true
              · rw [hA] at r1
                have HB1 : Aside0 (true = false ↔ good) := ⟨Iff.intro (fun h => by cases h) (fun h => by rw [HGOOD.out] at h; exact absurd h.1 (HANY.out.1 hA))⟩
                clear hA r2
                have k0 := cell_regrown K0.1
                have k1 := cell_regrown K0.2.1
                have k2 := cell_regrown K0.2.2
                clear K0
                refine wp_region_quiet_below (by kernel_rfl) (by kernel_rfl) ?_
                repeat (
                  with_reducible refine wpQuiet_step ?_
                  intro K hK
                  go_simp
                  first
                    | (with_reducible refine hK _ ?_; clear hK K)
                    | (apply Exists.intro
                       refine ⟨fun _ => ?_, hK _ ?_⟩
                       with_reducible exact r1 _ _
                       clear hK K))
                refine wpQuiet_nil ?_
                intro _ hw'
                obtain ⟨⟨dq, osq⟩, hw''⟩ := hw'
                subst hw''
                have hq := below_regrown wr dq osq
                go_wp2_with fail
                go_meet
                exact ⟨true, rfl, HB1, ⟨HJ3.out.go hq⟩⟩
              · have hA2 : (homesOf es).any (outB n a c) = false := by simpa using hA
                rw [hA2] at r1
                by_cases hB : Rising (homesOf es)
                · have hB2 : decide (Rising (homesOf es)) = true := decide_eq_true hB
                  rw [hB2] at r2
                  have har := fun W => run_arrayAt ⟨gb, 0, none⟩ cb W
                  obtain ⟨B1, hB1⟩ : ∃ B1, B1 = (bytes (lhdr tv (homesOf es) (dataOf es))).toArray := ⟨_, rfl⟩
                  obtain ⟨B2, hB2⟩ : ∃ B2, B2 = (bytes b).toArray := ⟨_, rfl⟩
                  have r3 : ∀ d os, Calls Tryd.prog 56 #[.int .i64 tv, .slice Ah j ch, .slice Ad (j * 256) cd] (Sort.grow (redrawn wr d) os) fun e w'' => e = .returned (.agg B1) ∧ ∃ p : Regrown, w'' = Sort.grow (redrawn wr p.d) p.os := fun d os => Calls.regrown_of (by
                    rw [hB1]
                    exact headed_calls ((HT.out.below HJ3.out.below).below (below_regrown wr d os)) (Kd.C_below HR1.out (below_regrown wr d os)) HLH.out (HR2.out.below (below_regrown wr d os)) HLD.out HBY.out (by omega) HMEM.out HTR.out.1 HTR.out.2)
                  have hlo : ∀ d os, (loadVar 93 ⟨gb, 0, none⟩).run Tryd.prog (Sort.grow (redrawn wr d) os) = .ok (.agg B2) (Sort.grow (redrawn wr d) os) := fun d os => by
                    rw [hB2]
                    exact run_loadVar_mid _ gb 0 93 (bytes b) (.array 256 5) (fun i v hi => (HJ3.out.go (below_regrown wr d os)).drop.drop.drop.rowCells.rcells i v hi) und93 rfl (by rw [info93]; simp [HBS.out.1])
                  have hne := fun W => run_neq_bytes W (lhdr tv (homesOf es) (dataOf es)) b (hdr_len (by rw [HLH.out]; omega)) HBS.out.1
                  rw [← hB1, ← hB2] at hne
                  obtain ⟨gg, hgg⟩ : ∃ gg, gg = !decide (lhdr tv (homesOf es) (dataOf es) = b) := ⟨_, rfl⟩
                  rw [← hgg] at hne
                  have HB1 : Aside0 (gg = false ↔ good) := ⟨by
                    rw [HGOOD.out, hgg]
                    have hall : ∀ x ∈ homesOf es, a + c < x ∧ x < (n : Int) := Classical.byContradiction fun h => hA (HANY.out.2 h)
                    constructor
                    · intro h
                      exact ⟨hall, hB, by simpa using h⟩
                    · rintro ⟨_, _, h⟩
                      simpa using h⟩
                  have k0 := cell_regrown K0.1
                  have k1 := cell_regrown K0.2.1
                  have k2 := cell_regrown K0.2.2
                  clear hgg
                  have HBA := Aside0.mk hB1
                  have HBB2 := Aside0.mk hB2
                  have HRI := Aside0.mk hB
                  clear K0 hA hA2 hB hB1 hB2
                  refine wp_region_quiet_below (by kernel_rfl) (by kernel_rfl) ?_
                  repeat (
                    with_reducible refine wpQuiet_step ?_
                    intro K hK
                    go_simp
                    first
                      | (with_reducible refine hK _ ?_; clear hK K)
                      | (apply Exists.intro
                         refine ⟨fun _ => ?_, hK _ ?_⟩
                         with_reducible first | exact r1 _ _ | exact r2 _ _ | exact r3 _ _
                         clear hK K))
                  with_reducible refine wpQuiet_step ?_
                  intro K hK
                  rw [if_pos (by go_simp)]
                  refine quiet_load rfl rfl (fun w ⟨q, hq⟩ => by rw [hq]; exact hlo q.d q.os) (hK _ ?_)
                  clear hK K
                  with_reducible refine wpQuiet_step ?_
                  intro K hK
                  go_simp
                  with_reducible refine hK _ ?_
                  clear hK K
                  repeat (
                    with_reducible refine wpQuiet_step ?_
                    intro K hK
                    go_simp
                    with_reducible refine hK _ ?_
                    clear hK K)
                  refine wpQuiet_nil ?_
                  intro _ hw'
                  obtain ⟨⟨dq, osq⟩, hw''⟩ := hw'
                  subst hw''
                  have hq := below_regrown wr dq osq
                  go_wp2_with fail
                  go_meet
                  exact ⟨gg, rfl, HB1, ⟨HJ3.out.go hq⟩⟩
                · have hB2 : decide (Rising (homesOf es)) = false := decide_eq_false hB
                  rw [hB2] at r2
                  have HB1 : Aside0 (true = false ↔ good) := ⟨Iff.intro (fun h => by cases h) (fun h => by rw [HGOOD.out] at h; exact absurd h.2.1 hB)⟩
                  clear hA hA2 hB hB2
                  have k0 := cell_regrown K0.1
                  have k1 := cell_regrown K0.2.1
                  have k2 := cell_regrown K0.2.2
                  clear K0
                  refine wp_region_quiet_below (by kernel_rfl) (by kernel_rfl) ?_
                  repeat (
                    with_reducible refine wpQuiet_step ?_
                    intro K hK
                    go_simp
                    first
                      | (with_reducible refine hK _ ?_; clear hK K)
                      | (apply Exists.intro
                         refine ⟨fun _ => ?_, hK _ ?_⟩
                         with_reducible first | exact r1 _ _ | exact r2 _ _
                         clear hK K))
                  refine wpQuiet_nil ?_
                  intro _ hw'
                  obtain ⟨⟨dq, osq⟩, hw''⟩ := hw'
                  subst hw''
                  have hq := below_regrown wr dq osq
                  go_wp2_with fail
                  go_meet
                  exact ⟨true, rfl, HB1, ⟨HJ3.out.go hq⟩⟩
            case rest =>
              obtain ⟨bad, rfl, HBAD, HE⟩ := hcut
              clear su1 su2 HD
              cases bad with
              | true =>
                have hr : logged d a c = (40, ⟨0, []⟩) := by rw [HLOG.out, if_neg (by rw [← HGOOD.out]; exact fun h => by have := HBAD.out.2 h; cases this)]
                have HR := Aside0.mk hr
                have f60 := free_of_blk HE.out.drop.drop.drop.drop.blk 0
                have f61 := free_of_blk HE.out.drop.drop.drop.drop.blk 1
                have f62 := free_of_blk HE.out.drop.drop.drop.drop.blk 2
                have c60 := cell_of_blk HE.out.drop.drop.drop.drop.blk 0
                have c61 := cell_of_blk HE.out.drop.drop.drop.drop.blk 1
                have c62 := cell_of_blk HE.out.drop.drop.drop.drop.blk 2
                clear hr
                go_wp2
                refine bodyPost_ret (results_cell2 (p := 6) (t := 7) rfl _ _ b6 0 [_, _, _] _ rfl (blk_range3 HE.out.drop.drop.drop.drop.set3) Tryd.underlying62 rfl info62) rfl ?_
                exact ReadTo.bad (dropArgs HE.out.drop.drop.drop.drop.set3.drop) HR.out
              | false =>
                have hr : logged d a c = (0, ⟨tv, es⟩) := by rw [HLOG.out, if_pos (by rw [← HGOOD.out]; exact HBAD.out.1 rfl)]
                have HR := Aside0.mk hr
                have q0 := cell_of_blk HE.out.blk 0
                have q1 := cell_of_blk HE.out.blk 1
                have q2 := cell_of_blk HE.out.blk 2
                have HE5 := Aside0.mk (St.rot5 HE.out)
                have f60 := free_of_blk HE5.out.blk 0
                have f61 := free_of_blk HE5.out.blk 1
                have f62 := free_of_blk HE5.out.blk 2
                have c60 := cell_of_blk HE5.out.blk 0
                have c61 := cell_of_blk HE5.out.blk 1
                have c62 := cell_of_blk HE5.out.blk 2
                have HEL : Aside0 (es.length = j) := ⟨by have := HLH.out; rwa [homesOf, List.length_map] at this⟩
                clear hr
                go_wp2
                refine bodyPost_ret (results_cell2 (p := 6) (t := 7) rfl _ _ b6 0 [_, _, _] _ rfl (blk_range3 HE5.out.set3) Tryd.underlying62 rfl info62) rfl ?_
                rw [HR.out]
                refine ⟨_, _, rfl, ?_⟩
                have h1 := HE5.out.set3 (u0 := .int .i64 tv) (u1 := .slice Ah j ch) (u2 := .slice Ad (j * 256) cd) |>.drop.drop
                have h2 := (St.rot3 h1).drop
                have h3 := dropArgs (L := rRow 3 1 (.slice Ah j ch) j (intsV (homesOf es)) :: rRow 5 1 (.slice Ad (j * 256) cd) (j * 256) (bytes (dataOf es)) :: L) (p := p) (d := d) (a := a) (c := c) (b3 := b3) (b4 := b4) (b5 := b5) (h2.perm (List.perm_append_comm_assoc [rRow 3 1 (.slice Ah j ch) j (intsV (homesOf es)), rRow 5 1 (.slice Ad (j * 256) cd) (j * 256) (bytes (dataOf es))] (rDisk p d :: argsR p a c b3 b4 b5) L))
                have h4 := St.back3 h3
                show St w0 _ (rRow 3 1 (.slice Ah j ch) es.length (intsV (homesOf es)) :: rRow 5 1 (.slice Ad (j * 256) cd) (es.length * 256) (bytes (dataOf es)) :: rDisk p d :: L)
                rw [HEL.out]
                exact h4
  · have q1 : decide (place n a c) = false := decide_eq_false hpl
    have hr : logged d a c = (2, ⟨0, []⟩) := by unfold logged; rw [← HN.out, if_pos hpl]
    rw [q1] at HP
    have HR := Aside0.mk hr
    clear hr hpl
    go_wp2_with fail
    refine HS.out.mono ?_
    rintro e w1 ⟨rfl, rfl⟩
    go_wp2_with fail
    refine HP.out.mono ?_
    rintro e w1 ⟨rfl, rfl⟩
    go_wp2
    refine bodyPost_ret (results_cell2 (p := 6) (t := 7) rfl _ _ b6 0 [_, _, _] _ rfl (blk_range3 H2.out.set3) Tryd.underlying62 rfl info62) rfl ?_
    exact ReadTo.bad (dropArgs H2.out.set3.drop) HR.out
end
end Go.Proofs.YtfhdiddlloiglaaDoor
end
section
/- A log is formatted, checked, opened. -/
namespace Go.Proofs.YtfhdiddlloiglaaDoor
open Go.RowKit Go.Proofs.YtfhdiddlloiglaaDoorW.PrintWords
attribute [local go_sem ↓] Go.wp_at_zero Go.wp_at_succ
set_option linter.unusedVariables false
set_option linter.unusedSimpArgs false
set_option maxRecDepth 100000

theorem logged_ok {d : Dsk} {a c : Int} (hd : d.Ok) (h : (logged d a c).1 = 0) : place d.vals.length a c ∧ ((logged d a c).2.l.length : Int) ≤ c ∧ (∀ x ∈ (logged d a c).2.l, x.2.length = 256 ∧ Bytes x.2) ∧ 0 ≤ (logged d a c).2.turn ∧ (logged d a c).2.turn < 4294967296 ∧
    (∀ x ∈ homesOf (logged d a c).2.l, a + c < x ∧ x < d.vals.length) := by
  by_cases hp : place d.vals.length a c
  · by_cases ho : d.off = true
    · unfold logged at h
      rw [if_neg (fun x => x hp), if_pos ho] at h
      cases h
    · have ho : d.off = false := by simpa using ho
      have hp' := hp
      obtain ⟨p1, p2, p3, p4⟩ := hp'
      have hil : a.toNat < d.vals.length := by omega
      have hb := hd.sec_at hil
      obtain ⟨m, hm⟩ : ∃ m : Nat, getAt (lastOf (d.vals.getD a.toNat [])) 8 2 = (m : Int) := ⟨_, (Int.toNat_of_nonneg (getAt_lt2 hb).1).symm⟩
      have e := logged_eq (ai := a.toNat) (b := lastOf (d.vals.getD a.toNat [])) hp ho (by omega) rfl hm
      rw [e] at h ⊢
      by_cases hc : c < (m : Int)
      · rw [if_pos hc] at h; cases h
      · rw [if_neg hc] at h ⊢
        by_cases hg : (∀ x ∈ homesOf (entries d a (lastOf (d.vals.getD a.toNat [])) m), a + c < x ∧ x < d.vals.length) ∧ Rising (homesOf (entries d a (lastOf (d.vals.getD a.toNat [])) m)) ∧ lhdr (getAt (lastOf (d.vals.getD a.toNat [])) 4 4) (homesOf (entries d a (lastOf (d.vals.getD a.toNat [])) m)) (dataOf (entries d a (lastOf (d.vals.getD a.toNat [])) m)) = lastOf (d.vals.getD a.toNat [])
        · rw [if_pos hg]
          refine ⟨hp, by show ((entries d a _ m).length : Int) ≤ c; rw [entries_len]; omega, fun x hx => ?_, (getAt_lt4 hb).1, (getAt_lt4 hb).2, hg.1⟩
          obtain ⟨i, hi, rfl⟩ := List.mem_map.1 (show x ∈ (List.range m).map _ from hx)
          have hi := List.mem_range.1 hi
          exact hd.sec_at (i := (a + 1 + i).toNat) (by omega)
        · rw [if_neg hg] at h; cases h
  · unfold logged at h
    rw [if_pos hp] at h
    cases h
theorem run_taken : ∀ (l : List Stp) (t : Bool) (d : Dsk), (runD l t d).2.2.taken ≤ d.taken + l.length
  | [], t, d => Nat.le_refl _
  | .wr i b :: r, t, d => by
    have h1 := run_taken r t (d.write i b).2
    have h2 := write_taken d i b
    show (if (d.write i b).1 = 0 then _ else _ : Int × Bool × Dsk).2.2.taken ≤ _
    rw [List.length_cons]
    split
    · omega
    · show (d.write i b).2.taken ≤ _; omega
  | .sync :: r, t, d => by
    have h1 := run_taken r t d.sync.2
    have h2 := sync_taken d
    show (if d.sync.1 = 0 then _ else _ : Int × Bool × Dsk).2.2.taken ≤ _
    rw [List.length_cons]
    split
    · omega
    · show d.sync.2.taken ≤ _; omega
  | .turn :: r, t, d => by
    have h1 := run_taken r true d
    show (runD r true d).2.2.taken ≤ _
    rw [List.length_cons]
    omega
section
variable {w0 w : World} {p : Nat} {d : Dsk} {L : List Res}
theorem St.diskN (H : St w0 w (rDisk p d :: L)) : 1 ≤ d.vals.length ∧ d.vals.length ≤ 4096 := ⟨H.diskOk.n1, H.diskOk.n2⟩
set_option maxHeartbeats 1000000 in
theorem St.formatL (H : St w0 w (rDisk p d :: L)) (hT : Half w0) (a c : Int) (ha : -9223372036854775808 ≤ a ∧ a ≤ 9223372036854775807) (ht : d.taken + 2 < maxTaken) :
    Calls Tryd.prog 10 #[.pointer (some ⟨p, 0, none⟩), .int .i64 a, .int .i64 c] w fun e w' => e = .returned (.int .i64 (formatD d a c).1) ∧ St w0 w' (rDisk p (formatD d a c).2 :: L) := by
  obtain ⟨n1, n2⟩ := H.diskN
  have HS := Aside0.mk H.sectors
  have HP := Aside0.mk (H.placeC a c ha)
  obtain ⟨n, hn⟩ : ∃ n, n = d.vals.length := ⟨_, rfl⟩
  have q0 : ((n : Int) == 0) = false := by simp; omega
  rw [← hn] at HS HP
  have HE := Aside0.mk ((St.swap H.emp).empty (p := p) (lp := 0) (t := 0) (turn := 0) a hT (by decide) (by decide))
  have HN := Aside0.mk hn
  have HH := Aside0.mk H
  have HT := Aside0.mk ht
  clear H hT ht n1 n2 hn
  by_cases hpl : place n a c
  · have q1 : decide (place n a c) = true := decide_eq_true hpl
    have hf : formatD d a c = ((runD (emptyS a 0) false d).1, (runD (emptyS a 0) false d).2.2) := by unfold formatD; rw [← HN.out, if_neg (fun h => h hpl)]
    rw [q1] at HP
    rw [hf]
    clear hf hpl q1
    go_enter Tryd.func10, Tryd.ntmps10
    go_wp2_with fail
    refine HS.out.mono ?_
    rintro e w1 ⟨rfl, rfl⟩
    go_wp2_with fail
    refine HP.out.mono ?_
    rintro e w1 ⟨rfl, rfl⟩
    go_wp2_with fail
    refine HE.out.mono ?_
    rintro e w2 ⟨g, rfl, H2⟩
    have HR := Aside0.mk (H2.run (J := fun _ => rEmp) rfl (by decide) HT.out (fun h => by simp [emptyS] at h))
    clear H2 HE HH q0
    go_wp2_with fail
    refine HR.out.mono ?_
    rintro e w3 ⟨rfl, H3⟩
    have H4 := Aside0.mk (St.swap H3.drop).drop
    clear H3 HR
    go_wp2
    go_ret
    exact ⟨rfl, H4.out⟩
  · have q1 : decide (place n a c) = false := decide_eq_false hpl
    have hf : formatD d a c = (2, d) := by unfold formatD; rw [← HN.out, if_pos hpl]
    rw [q1] at HP
    rw [hf]
    clear hf hpl q1 HE
    go_enter Tryd.func10, Tryd.ntmps10
    go_wp2_with fail
    refine HS.out.mono ?_
    rintro e w1 ⟨rfl, rfl⟩
    go_wp2_with fail
    refine HP.out.mono ?_
    rintro e w1 ⟨rfl, rfl⟩
    go_wp2
    go_ret
    exact ⟨rfl, HH.out⟩
set_option maxHeartbeats 1000000 in
theorem St.checkL (H : St w0 w (rDisk p d :: L)) (hT : Half w0) (a c : Int) (ha : -9223372036854775808 ≤ a ∧ a ≤ 9223372036854775807) {r : Int × Lgd} (hr : logged d a c = r) :
    Calls Tryd.prog 9 #[.pointer (some ⟨p, 0, none⟩), .int .i64 a, .int .i64 c] w fun e w' => ∃ v, e = .returned (.tuple #[v, .int .i64 r.1]) ∧ St w0 w' (rRow 3 1 v r.2.l.length (intsV (homesOf r.2.l)) :: rDisk p d :: L) := by
  have HR := Aside0.mk (H.readLog hT a c ha)
  rw [hr] at HR
  obtain ⟨i, t, l⟩ := r
  clear H hr
  go_enter Tryd.func9, Tryd.ntmps9
  go_wp2_with fail
  refine HR.out.mono ?_
  rintro e w1 ⟨vh, vd, rfl, H1⟩
  obtain ⟨Ah, ch, rfl⟩ := own_slice H1.row
  obtain ⟨Ad, cd, rfl⟩ := own_slice H1.drop.row
  have H2 := Aside0.mk (H1.alloc (.cells #[.int .i64 t, .slice Ah l.length ch, .slice Ad (l.length * 256) cd] 62))
  have c1 := cell_of_blk H2.out.blk 1
  clear H1 HR
  go_wp2
  go_ret2
  exact ⟨_, rfl, (St.swap H2.out.drop).drop⟩
end
end Go.Proofs.YtfhdiddlloiglaaDoor
end
section
/- A log is opened. -/
namespace Go.Proofs.YtfhdiddlloiglaaDoor
open Go.RowKit Go.Proofs.YtfhdiddlloiglaaDoorW.PrintWords
attribute [local go_sem ↓] Go.wp_at_zero Go.wp_at_succ
set_option linter.unusedVariables false
set_option linter.unusedSimpArgs false
set_option maxRecDepth 100000

theorem ownsRow_formC {w : World} {base : Nat} {e : TypeId} {size : Nat} {v : Value} {n : Nat} {xs : List Value} (h : w.ownsRow base e size v n xs) (hn : 0 < n) : ∃ g cap, v = .slice (some ⟨g, 0, none⟩) n cap ∧ n ≤ cap := by
  rcases h.2 with ⟨_, h0⟩ | ⟨g, cap, cur, hv, hb, hg, hc, _⟩
  · omega
  · exact ⟨g, cap, hv, hc⟩
/-- What an opening answers. -/
def OpenTo (w0 : World) (p : Nat) (a c : Int) (L : List Res) (r : Int × Int × Dsk) (e : Ending) (w' : World) : Prop :=
  (r.1 = 0 ∧ ∃ lp : Nat, e = .returned (.tuple #[.pointer (some ⟨lp, 0, none⟩), .int .i64 0]) ∧ St w0 w' (rBlk lp (walObj p ⟨a, c, r.2.1, false⟩) :: rDisk p r.2.2 :: L)) ∨
  (r.1 ≠ 0 ∧ e = .returned (.tuple #[.pointer none, .int .i64 r.1]) ∧ St w0 w' (rDisk p r.2.2 :: L))
section
variable {w0 w : World} {p : Nat} {d : Dsk} {L : List Res}
set_option maxHeartbeats 2000000 in
theorem St.openL (H : St w0 w (rDisk p d :: L)) (hT : Half w0) (a c : Int) (ha : -9223372036854775808 ≤ a ∧ a ≤ 9223372036854775807) (ht : d.taken + 103 < maxTaken) {r : Int × Int × Dsk} (hr : openD d a c = r) :
    Calls Tryd.prog 8 #[.pointer (some ⟨p, 0, none⟩), .int .i64 a, .int .i64 c] w fun e w' => OpenTo w0 p a c L r e w' := by
  have hok := H.diskOk
  have hlo := @logged_ok d a c hok
  have HR := Aside0.mk (H.readLog hT a c ha)
  obtain ⟨i, ⟨t, l⟩, hl⟩ : ∃ (i : Int) (x : Lgd), logged d a c = (i, x) := ⟨_, _, rfl⟩
  unfold openD at hr
  rw [hl] at HR hlo hr
  by_cases hi : i = 0
  · subst hi
    obtain ⟨hp, hlen, hsec, ht0, ht1, hhom⟩ := hlo rfl
    have hlen : (l.length : Int) ≤ c := hlen
    obtain ⟨p1, p2, p3, p4⟩ := hp
    rw [if_neg (by simp)] at hr
    by_cases hn : l = []
    · subst hn
      rw [if_pos rfl] at hr
      have HRR := Aside0.mk hr
      clear H hl hok hlo hlen hsec hhom hr
      go_enter Tryd.func8, Tryd.ntmps8
      go_wp2_with fail
      refine HR.out.mono ?_
      rintro e w1 ⟨vh, vd, rfl, H1⟩
      obtain ⟨Ah, ch, rfl⟩ := own_slice H1.row
      obtain ⟨Ad, cd, rfl⟩ := own_slice H1.drop.row
      obtain ⟨bx, hbx⟩ : ∃ bx, bx = w1.heap.size := ⟨_, rfl⟩
      have h2 := H1.alloc (.cells #[.int .i64 t, .slice Ah 0 ch, .slice Ad (0 * 256) cd] 62)
      rw [← hbx] at h2
      have H2 := Aside0.mk h2
      have c0 := cell_of_blk h2.blk 0
      have c1 := cell_of_blk h2.blk 1
      clear H1 HR h2
      go_upto_region 2 with fail
      rw [← hbx]
      clear hbx
      generalize w1.alloc (.cells #[.int .i64 t, .slice Ah 0 ch, .slice Ad (0 * 256) cd] 62) = w2 at *
      have H3 := Aside0.mk ((H2.out.drop.drop.drop).alloc (walObj p ⟨a, c, t, false⟩))
      clear H2
      go_wp2
      go_ret2
      rw [← HRR.out]
      exact .inl ⟨rfl, _, rfl, H3.out⟩
    · rw [if_neg hn] at hr
      obtain ⟨n, hnn⟩ : ∃ n, n = l.length := ⟨_, rfl⟩
      have hn1 : 1 ≤ n := by
        have : l.length ≠ 0 := fun h => hn (List.length_eq_zero_iff.1 h)
        omega
      have hn2 : n ≤ 100 := by omega
      have t1 : decide ((0 : Int) < (n : Int)) = true := decide_eq_true (by omega)
      have t1' : (0 : Int) < (n : Int) := by omega
      have t1'' : 0 < n := hn1
      have HRR := Aside0.mk hr
      have HNN := Aside0.mk hnn
      have HSEC := Aside0.mk hsec
      have HTT := Aside0.mk ht
      have HHT := Aside0.mk hT
      have hrl : (homeS a t l).length = n + 3 := by rw [homeS, List.length_append, List.length_map, ← hnn]; rfl
      have HRL := Aside0.mk hrl
      clear H hl hok hlo hlen hsec hhom hr hnn hT ht hn hrl
      go_enter Tryd.func8, Tryd.ntmps8
      go_wp2_with fail
      refine HR.out.mono ?_
      rintro e w1 ⟨vh, vd, rfl, H1⟩
      have hH1 : St w0 w1 (rRow 3 1 vh n (intsV (homesOf l)) :: rRow 5 1 vd (n * 256) (bytes (dataOf l)) :: rDisk p d :: L) := by rw [HNN.out]; exact H1
      obtain ⟨gh, ch, rfl, hch⟩ := ownsRow_formC hH1.row (by omega)
      obtain ⟨gd, cd, rfl, hcd⟩ := ownsRow_formC hH1.drop.row (by omega)
      have HCD := Aside0.mk hcd
      have h2 := St.rowCells (St.swap (St.rowCells hH1))
      obtain ⟨bx, hbx⟩ : ∃ bx, bx = w1.heap.size := ⟨_, rfl⟩
      have h3 := h2.alloc (.cells #[.int .i64 t, .slice (some ⟨gh, 0, none⟩) n ch, .slice (some ⟨gd, 0, none⟩) (n * 256) cd] 62)
      rw [← hbx] at h3
      have H3 := Aside0.mk h3
      have c0 := cell_of_blk h3.blk 0
      have c1 := cell_of_blk h3.blk 1
      have c2 := cell_of_blk h3.blk 2
      clear H1 hH1 HR h2 h3 hch hcd
      go_upto_region 2 with fail
      rw [← hbx]
      clear hbx
      generalize w1.alloc (.cells #[.int .i64 t, .slice (some ⟨gh, 0, none⟩) n ch, .slice (some ⟨gd, 0, none⟩) (n * 256) cd] 62) = w2 at *
      have hf := St.back4 (St.emp (St.back4 H3.out))
      have hho := Aside0.mk (hf.home (p := p) (lp := 0) (t := 0) (a := a) (ch := ch) HHT.out ht0 ht1 HNN.out.symm hn1 hn2 HSEC.out HCD.out)
      clear hf
      go_wp2_with fail
      refine hho.out.mono ?_
      rintro e w3 ⟨g, cc, rfl, H4⟩
      have hrun := (St.swap (St.swap H4).drop).drop.run (J := fun _ => rEmp) HRL.out (by omega) (by have := HTT.out; omega) (fun h => by simp [homeS, emptyS] at h)
      obtain ⟨rc, hrc⟩ : ∃ rc, rc = (runD (homeS a t l) false d).1 := ⟨_, rfl⟩
      obtain ⟨d', hd'⟩ : ∃ d', d' = (runD (homeS a t l) false d).2.2 := ⟨_, rfl⟩
      rw [← hrc, ← hd'] at hrun
      have HRC : Aside0 (r = (rc, t, d')) := ⟨by rw [← HRR.out, hrc, hd']⟩
      have HRUN := Aside0.mk hrun
      clear hrun hrc hd' hho H4 c0 c1 c2
      go_wp2_with fail
      refine HRUN.out.mono ?_
      rintro e w4 ⟨rfl, H5⟩
      have h6 := (St.swap H5.drop).drop
      have c0 := cell_of_blk (St.swap h6).blk 0
      by_cases h0 : rc = 0
      · subst h0
        have H8 := Aside0.mk ((St.swap h6).drop.alloc (walObj p ⟨a, c, t, false⟩))
        clear H5 h6 HRUN H3
        go_wp2
        go_ret2
        rw [HRC.out]
        exact .inl ⟨rfl, _, rfl, H8.out⟩
      · have q : (rc != 0) = true := by simpa using h0
        have H7 := Aside0.mk (St.swap h6).drop
        clear H5 h6 HRUN H3
        go_wp2
        go_ret2
        rw [HRC.out]
        exact .inr ⟨h0, rfl, H7.out⟩
  · rw [if_pos (by simpa using hi)] at hr
    have HRR := Aside0.mk hr
    have q : (i != 0) = true := by simpa using hi
    have q2 : (i == 0) = false := by simpa using hi
    have HI := Aside0.mk hi
    clear H hl hok hlo hr hi
    go_enter Tryd.func8, Tryd.ntmps8
    go_wp2_with fail
    refine HR.out.mono ?_
    rintro e w1 ⟨vh, vd, rfl, H1⟩
    obtain ⟨Ah, ch, rfl⟩ := own_slice H1.row
    obtain ⟨Ad, cd, rfl⟩ := own_slice H1.drop.row
    have H2 := Aside0.mk ((H1.drop.drop).alloc (.cells #[.int .i64 t, .slice Ah l.length ch, .slice Ad (l.length * 256) cd] 62)).drop
    clear H1 HR
    go_wp2
    go_ret2
    rw [← HRR.out]
    exact .inr ⟨HI.out, rfl, H2.out⟩
end
end Go.Proofs.YtfhdiddlloiglaaDoor
end
