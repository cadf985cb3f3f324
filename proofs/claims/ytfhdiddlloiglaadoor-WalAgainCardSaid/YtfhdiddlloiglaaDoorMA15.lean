/- Texts of this claim, one behind the other: G5, G6, G8, G9, G10, G7. -/
import Derived.Test.YtfhdiddlloiglaaDoorMA14
import Derived.Deep.RegionHeld3
import Derived.Deep.DrawnRows
import Derived.Deep.DeepCutAuto
section
/- wal.home. -/
namespace Go.Proofs.YtfhdiddlloiglaaDoor
open Go.RowKit Go.Proofs.YtfhdiddlloiglaaDoorW.PrintWords
attribute [local go_sem ↓] Go.wp_at_zero Go.wp_at_succ
set_option linter.unusedVariables false
set_option linter.unusedSimpArgs false
set_option maxRecDepth 100000

/-- append's run, gated: two of them meet argument by argument. -/
structure AppRun (v u : Value) (w : World) (v' : Value) (w' : World) : Prop where
  out : (Builtin.append_ #[66, 66] 66 #[v, u]).run Tryd.prog w = .ok v' w'
theorem step_app {w : World} {ops : Array Oper} {o : Oper} {a : Act} {K : Act → World → Prop} {Q : Exit → Act → World → Prop} {E : Prop} (hgd : o.guard = none) (s x : Operand)
    (ho : o.op = .call { callee := .builtin .append, args := #[s, x], argTypes := #[66, 66] }) (hty : o.type = 66) {v u v' : Value} {w' : World} (hrun : AppRun v u w v' w') (hs : a.eval s = v) (hx : a.eval x = u)
    (h : K (a.put o.dst v') w') : if Region.wanted o (yielded ops a.tmps) = true then Oper.wp Tryd.prog o a w K Q else E := by
  have hw : Region.wanted o (yielded ops a.tmps) = true := by simp [Region.wanted, hgd]
  rw [if_pos hw]
  unfold Oper.wp execOp
  simp only [ho, resolve, invoke, builtin, Sem.run_bind, Sem.run_pure, Result.andThen_ok, List.map_toArray, List.map_cons, List.map_nil, hs, hx, hty, hrun.out]
  exact h
/-- A call, gated. -/
structure CallAt (f : Nat) (args : Array Value) (W : World) (K : Ending → World → Prop) : Prop where
  out : Calls Tryd.prog f args W K
theorem CallAt.mono {f : Nat} {args : Array Value} {W : World} {K K' : Ending → World → Prop} (h : CallAt f args W K) (hm : ∀ e w', K e w' → K' e w') : CallAt f args W K' := ⟨h.out.mono hm⟩
theorem CallAt.use {f : Nat} {args : Array Value} {W : World} {K K' : Ending → World → Prop} (h : CallAt f args W K) (hm : ∀ e w', K e w' → K' e w') : Calls Tryd.prog f args W K' := h.out.mono hm
theorem CellsT.rdI {w : World} {T : Foot} {g o : Nat} {b : List Int} (h : CellsT w T g o (b.map (Value.int .i64))) (hl : b.length ≤ 9223372036854775807) : RdI w (some ⟨g, o, none⟩) b := by
  refine ⟨rfl, hl, fun _ => ⟨_, rfl, fun j x hj => ⟨[.int .i64 x], rfl, rfl, fun i u hu => ?_⟩⟩⟩
  have hi : i = 0 := by have := (List.getElem?_eq_some_iff.1 hu).1; simpa using this
  subst hi
  have e : Value.int .i64 x = u := by simpa using hu
  subst e
  have := h.2 j (.int .i64 x) (by rw [List.getElem?_map, hj]; rfl)
  rw [addr_add]
  simpa [Kd.int, Kd.scalar] using this
section
variable {w0 w : World} {p lp : Nat} {t : Int} {d : Dsk} {L : List Res}
theorem flat_sec : ∀ (l : List (Int × Sec)) (j : Nat) (h : j < l.length), (∀ x ∈ l, x.2.length = 256) → ((dataOf l).drop (j * 256)).take 256 = l[j].2
  | [], j, h, _ => absurd h (by simp)
  | x :: r, 0, h, hl => by
    have := hl x List.mem_cons_self
    show (x.2 ++ dataOf r).take 256 = x.2
    rw [List.take_left' this]
  | x :: r, j + 1, h, hl => by
    have h1 := hl x List.mem_cons_self
    show ((x.2 ++ dataOf r).drop ((j + 1) * 256)).take 256 = _
    rw [show (j + 1) * 256 = 256 + j * 256 by omega, ← List.drop_drop, List.drop_left' h1]
    exact flat_sec r j (by simpa using h) fun y hy => hl y (by simp [hy])
theorem flat_secs : ∀ (l : List (Int × Sec)), (∀ x ∈ l, x.2.length = 256) → (dataOf l).length = l.length * 256
  | [], _ => rfl
  | x :: r, hl => by
    show (x.2 ++ dataOf r).length = _
    rw [List.length_append, hl x List.mem_cons_self, flat_secs r fun y hy => hl y (by simp [hy]), List.length_cons]; omega
/-- A part of cells that nobody writes. -/
theorem St.part {g o : Nat} {b : List Int} (H : St w0 w (rCells g o (bytes b) :: L)) (k m : Nat) : St w0 w (rCells g (o + k) (bytes ((b.drop k).take m)) :: rCells g o (bytes b) :: L) := by
  obtain ⟨T, S, h, hd⟩ := H.withT
  refine hd _ ⟨⟨h.1.1, fun j u hj => ?_⟩, fun _ h => h⟩
  have hjm : j < m := by
    have := (List.getElem?_eq_some_iff.1 hj).1
    simp at this; omega
  have : (bytes b)[k + j]? = some u := by
    rw [bytes, List.getElem?_map, List.getElem?_take, if_pos hjm, List.getElem?_drop] at hj
    rw [bytes, List.getElem?_map]
    exact hj
  have := h.1.2 (k + j) u this
  rwa [← Nat.add_assoc] at this
def wrsOf (l : List (Int × Sec)) : List Stp := l.map fun x => .wr x.1 x.2
set_option maxHeartbeats 1000000 in
theorem St.home {ls : List (Int × Sec)} {turn a : Int} {n gd od cd gh oh ch : Nat} (H : St w0 w (rCells gd od (bytes (dataOf ls)) :: rCells gh oh ((homesOf ls).map (Value.int .i64)) :: L)) (hT : Half w0) (ht0 : 0 ≤ turn) (ht1 : turn < 4294967296)
    (hn : ls.length = n) (hn1 : 1 ≤ n) (hn2 : n ≤ 100) (hsec : ∀ x ∈ ls, x.2.length = 256 ∧ Bytes x.2) (hcd : n * 256 ≤ cd) :
    Calls Tryd.prog 30 #[.pointer (some ⟨p, 0, none⟩), .int .i64 a, .agg #[.int .i64 turn, .slice (some ⟨gh, oh, none⟩) n ch, .slice (some ⟨gd, od, none⟩) (n * 256) cd]] w fun e w' =>
      ∃ g c, e = .returned (.slice (some ⟨g, 0, none⟩) (n + 3) c) ∧ St w0 w' (rSteps p lp t (.slice (some ⟨g, 0, none⟩) (n + 3) c) (homeS a turn ls) :: rCells gd od (bytes (dataOf ls)) :: rCells gh oh ((homesOf ls).map (Value.int .i64)) :: L) := by
  obtain ⟨bx, hbx⟩ : ∃ bx, bx = w.heap.size := ⟨_, rfl⟩
  have HX : Aside0 (St w0 (w.alloc (.cells #[.int .i64 turn, .slice (some ⟨gh, oh, none⟩) n ch, .slice (some ⟨gd, od, none⟩) (n * 256) cd] 62)) (rSteps p lp t (.slice none 0 0) (wrsOf (ls.take 0)) :: rBlk bx (.cells #[.int .i64 turn, .slice (some ⟨gh, oh, none⟩) n ch, .slice (some ⟨gd, od, none⟩) (n * 256) cd] 62) :: rCells gd od (bytes (dataOf ls)) :: rCells gh oh ((homesOf ls).map (Value.int .i64)) :: L)) := ⟨by rw [hbx]; exact (H.alloc _).noSteps⟩
  have HN := Aside0.mk hn
  have HS := Aside0.mk hsec
  have HT := Aside0.mk hT
  have HCD := Aside0.mk hcd
  clear H hn hsec hT hcd
  generalize hW0 : w.alloc (.cells #[.int .i64 turn, .slice (some ⟨gh, oh, none⟩) n ch, .slice (some ⟨gd, od, none⟩) (n * 256) cd] 62) = W0 at HX
  have HW0 := Aside0.mk hW0
  clear hW0
  go_enter Tryd.func30, Tryd.ntmps30
  go_upto_region 1 with fail
  rw [← hbx, HW0.out]
  have c1 : W0.cell? ⟨bx, 1, none⟩ = some (.slice (some ⟨gh, oh, none⟩) n ch) := cell_of_blk HX.out.drop.blk 1
  clear hbx HW0
  go_wp2_with fail
  go_loopw [7, 13] (fun v7 v13 W => ∃ j : Nat, v13 = .int .i64 (j : Int) ∧ j ≤ n ∧ Aside0 (St w0 W (rSteps p lp t v7 (wrsOf (ls.take j)) :: rBlk bx (.cells #[.int .i64 turn, .slice (some ⟨gh, oh, none⟩) n ch, .slice (some ⟨gd, od, none⟩) (n * 256) cd] 62) :: rCells gd od (bytes (dataOf ls)) :: rCells gh oh ((homesOf ls).map (Value.int .i64)) :: L)) ∧ (0 < j → ∃ g c, v7 = .slice (some ⟨g, 0, none⟩) j c)) (fun _ v13 _ => n - (RowKit.intOf v13).toNat)
  case atStart => exact ⟨0, rfl, Nat.zero_le _, HX, fun h => absurd h (by omega)⟩
  case round =>
    clear HX c1
    obtain ⟨j, rfl, hj, HJ, hform⟩ := hrel
    by_cases hjn : j < n
    · have t1 : decide ((j : Int) < (n : Int)) = true := decide_eq_true (by omega)
      have t1' : (j : Int) < (n : Int) := by omega
      have hjl : j < ls.length := by rw [HN.out]; exact hjn
      obtain ⟨x, hx⟩ : ∃ x, x = ls[j] := ⟨_, rfl⟩
      have hxm := HS.out x (by rw [hx]; exact List.getElem_mem hjl)
      have hblk := HJ.out.drop.blk
      have c2 : wr.cell? ⟨bx, 2, none⟩ = some (.slice (some ⟨gd, od, none⟩) (n * 256) cd) := cell_of_blk hblk 2
      have ch0 : wr.cell? ⟨gh, oh + j, none⟩ = some (.int .i64 x.1) := HJ.out.drop.drop.drop.rcells j _ (by rw [homesOf, List.map_map, List.getElem?_map, List.getElem?_eq_getElem hjl, hx]; rfl)
      have hsec : ((dataOf ls).drop (j * 256)).take 256 = x.2 := by rw [flat_sec ls j hjl (fun y hy => (HS.out y hy).1), hx]
      have hpart := ((St.rot3 HJ.out).part (j * 256) 256)
      rw [hsec] at hpart
      have htk : wrsOf (ls.take j) ++ [.wr x.1 x.2] = wrsOf (ls.take (j + 1)) := by rw [List.take_succ_eq_append_getElem hjl, wrsOf, wrsOf, List.map_append, hx]; rfl
      have htl : (wrsOf (ls.take j)).length = j := by rw [wrsOf, List.length_map, List.length_take, HN.out]; omega
      obtain ⟨lo, hlo⟩ : ∃ lo, lo = j * 256 := ⟨_, rfl⟩
      rw [← hlo] at hpart
      have w1 : IntKind.i64.wrap ((j : Int) * 256) = (lo : Int) := by rw [IntWalk.i64_in _ (by omega)]; omega
      have q1 : (0 : Int) ≤ (lo : Int) := by omega
      have q2 : (lo : Int) ≤ ((j : Int) + 1) * 256 := by omega
      have q3 : ((j : Int) + 1) * 256 ≤ (cd : Int) := by have := HCD.out; omega
      have q5 : (0 : Int) ≤ ((j : Int) + 1) * 256 := by omega
      have q6 : lo ≤ (j + 1) * 256 := by omega
      have e256 : (j + 1) * 256 - lo = 256 := by omega
      have q4 : ¬ cd = lo := by have := HCD.out; omega
      have HP := Aside0.mk hpart
      have HXM := Aside0.mk hxm
      have HTK := Aside0.mk htk
      have HTL := Aside0.mk htl
      clear hblk hsec hpart hx hxm htk htl hlo HJ hjl
      have hwc := Aside0.mk (write_calls wr (.pointer (some ⟨p, 0, none⟩)) ⟨_, rfl⟩ x.1 (some ⟨gd, od + lo, none⟩) 256 (cd - lo))
      go_upto_region 5 with fail
      go_wp2_with fail
      refine hwc.out.mono ?_
      rintro e W4 ⟨rfl, rfl⟩
      have h5 := ((St.swap (HP.out.noStep (p := p) (lp := lp) (t := t))).box3 (.pointer (some ⟨p, 0, none⟩)) (.int .i64 x.1) (.slice (some ⟨gd, od + lo, none⟩) 256 (cd - lo))).wrStep HXM.out.1 HXM.out.2
      have h6 := h5.alloc (.cells #[.func (.func 71) #[] #[.pointer (some ⟨wr.heap.size, 0, none⟩), .pointer (some ⟨wr.heap.size + 1, 0, none⟩), .pointer (some ⟨wr.heap.size + 2, 0, none⟩)]] 95)
      have e3 : (((wr.alloc (.cells #[.pointer (some ⟨p, 0, none⟩)] 25)).alloc (.cells #[.int .i64 x.1] 3)).alloc (.cells #[.slice (some ⟨gd, od + lo, none⟩) 256 (cd - lo)] 44)).heap.size = wr.heap.size + 1 + 1 + 1 := by simp
      rw [e3] at h6
      have h7 := St.stepRow (n := 1) rfl (by decide) h6
      have H8 := Aside0.mk (St.swap (St.rot3 h7))
      clear hwc h5 h6 h7 e3 HP
      go_wp2_with (at_builtin; refine wpl_appS rfl (.tmp 18) (.tmp 30) rfl rfl _ (wrsOf (ls.take j)) [.wr x.1 x.2] (wr.heap.size + 1 + 1 + 1) 1 1 rfl rfl rfl (by decide) (by rw [HTL.out]; omega) H8.out ?_; intro w9 g9 c9 h9; have h9 := Aside0.mk h9)
      have h10 : Aside0 (St w0 w9 (rSteps p lp t (.slice (some ⟨g9, 0, none⟩) ((wrsOf (ls.take j)).length + 1) c9) (wrsOf (ls.take (j + 1))) :: rBlk bx (.cells #[.int .i64 turn, .slice (some ⟨gh, oh, none⟩) n ch, .slice (some ⟨gd, od, none⟩) (n * 256) cd] 62) :: rCells gd od (bytes (dataOf ls)) :: rCells gh oh ((homesOf ls).map (Value.int .i64)) :: L)) := ⟨by
        have h := h9.out
        rw [HTK.out] at h
        exact h.perm (List.Perm.cons _ (List.Perm.swap _ _ _))⟩
      go_roundw
      case rel => exact ⟨j + 1, by go_num, hjn, h10, fun _ => ⟨g9, c9, by rw [HTL.out]⟩⟩
      case measure => simp only [RowKit.intOf]; omega
    · have hje : j = n := by omega
      subst hje
      have t1 : decide ((j : Int) < (j : Int)) = false := decide_eq_false (by omega)
      obtain ⟨g, c, rfl⟩ := hform hn1
      have e0 : ls.take j = ls := List.take_of_length_le (by rw [HN.out]; omega)
      have HJ0 := HJ.out
      rw [e0] at HJ0
      obtain ⟨l, hl⟩ : ∃ l, l = wrsOf ls := ⟨_, rfl⟩
      have hll : l.length = j := by rw [hl, wrsOf, List.length_map, HN.out]
      have hll2 : (l ++ [Stp.sync]).length = j + 1 := by rw [List.length_append, hll]; rfl
      have hfin : (l ++ [Stp.sync]) ++ emptyS a turn = homeS a turn ls := by rw [hl, homeS, wrsOf]; simp
      rw [← hl] at HJ0
      obtain ⟨B, hB⟩ : ∃ B, B = Obj.cells #[.int .i64 turn, .slice (some ⟨gh, oh, none⟩) j ch, .slice (some ⟨gd, od, none⟩) (j * 256) cd] 62 := ⟨_, rfl⟩
      rw [← hB] at HJ0
      have hcell : ∀ W : World, W.heap[bx]? = some B → W.cell? ⟨bx, 0, none⟩ = some (.int .i64 turn) := fun W h => by rw [hB] at h; exact cell_of_blk h 0
      have HCB := Aside0.mk hcell
      have H0 := HJ0.drew
      have hz : wr.drew.heap.size = wr.heap.size := rfl
      -- buildSlice first
      have Ha := St.stepRow (n := 1) rfl (by decide) ((H0.noStep.syncStep (p := p) (lp := lp) (t := t)).alloc (.cells #[.func (.func 42) #[.pointer (some ⟨p, 0, none⟩)] #[]] 95))
      rw [hz] at Ha
      obtain ⟨ga, ca, Wa1, ra1, Ha1⟩ := Ha.appS rfl (by decide) (by omega)
      rw [hll] at ra1 Ha1
      have fa1 := AppRun.mk ra1
      have ka1 := HCB.out _ Ha1.drop.blk
      have ca1 := CallAt.mk (Ha1.empty (p := p) (lp := lp) (t := t) (turn := turn) a HT.out ht0 ht1)
      have ka0 := HCB.out _ Ha.drop.drop.blk
      have k0 := HCB.out _ H0.drop.blk
      have KA1 := Aside0.mk ka1
      have KA0 := Aside0.mk ka0
      have K0 := Aside0.mk k0
      have HLL := Aside0.mk hll
      have HLL2 := Aside0.mk hll2
      have HFIN := Aside0.mk hfin
      clear hl hll hll2 hfin hB hcell H0 HJ0 HJ Ha ra1 Ha1 ka1 ka0 k0 e0 hform hz
      go_wp2_with fail
      go_region_held3 (fun W' => W'.cell? ⟨bx, 0, none⟩ = some (.int .i64 turn))
        ((first | exact K0.out | exact KA0.out | exact KA1.out | exact kx1.out | exact kx2.out))
        ((first
          | (refine step_app rfl (.tmp 33) (.tmp 36) rfl rfl fa1 rfl rfl ?_)
          | (refine step_app rfl (.tmp 37) (.tmp 42) rfl rfl fa3 rfl rfl ?_)
          | (go_at_call 33; refine CallAt.out ?_; refine CallAt.mono ca1 ?_; rintro e W2 ⟨ge, rfl, he⟩; have kx1 := Aside0.mk (HCB.out _ he.drop.drop.blk); obtain ⟨g3, c3, W3, r3, hfin3⟩ := he.appS rfl (by decide) (by rw [HLL2.out]; omega); rw [HLL2.out] at r3 hfin3; have kx2 := Aside0.mk (HCB.out _ hfin3.drop.blk); have fa3 := AppRun.mk r3; have hfin3 := Aside0.mk hfin3; clear r3 he)))
      all_goals (
        go_wp2
        go_ret
        refine ⟨_, _, rfl, ?_⟩
        have h := hfin3.out
        rw [HFIN.out] at h
        exact (St.swap h).drop)
end
end Go.Proofs.YtfhdiddlloiglaaDoor
end
section
/- wal's (*Wal).steps: what it needs. -/
namespace Go.Proofs.YtfhdiddlloiglaaDoor
open Go.RowKit Go.Proofs.YtfhdiddlloiglaaDoorW.PrintWords
attribute [local go_sem ↓] Go.wp_at_zero Go.wp_at_succ
set_option linter.unusedVariables false
set_option linter.unusedSimpArgs false
set_option maxRecDepth 100000

structure AppRunT (ty : TypeId) (v u : Value) (w : World) (v' : Value) (w' : World) : Prop where
  out : (Builtin.append_ #[ty, ty] ty #[v, u]).run Tryd.prog w = .ok v' w'
theorem step_appT {ty : TypeId} {w : World} {ops : Array Oper} {o : Oper} {a : Act} {K : Act → World → Prop} {Q : Exit → Act → World → Prop} {E : Prop} (hgd : o.guard = none) (s x : Operand)
    (ho : o.op = .call { callee := .builtin .append, args := #[s, x], argTypes := #[ty, ty] }) (hty : o.type = ty) {v u v' : Value} {w' : World} (hrun : AppRunT ty v u w v' w') (hs : a.eval s = v) (hx : a.eval x = u)
    (h : K (a.put o.dst v') w') : if Region.wanted o (yielded ops a.tmps) = true then Oper.wp Tryd.prog o a w K Q else E := by
  have hw : Region.wanted o (yielded ops a.tmps) = true := by simp [Region.wanted, hgd]
  rw [if_pos hw]
  unfold Oper.wp execOp
  simp only [ho, resolve, invoke, builtin, Sem.run_bind, Sem.run_pure, Result.andThen_ok, List.map_toArray, List.map_cons, List.map_nil, hs, hx, hty, hrun.out]
  exact h
theorem info3_ : (Tryd.prog.info? 3).map (fun i => (i.zero, i.size, i.bytes)) = some (some (.int .i64 0), 1, 8) := by kernel_rfl
theorem info3 : ∃ i, Tryd.prog.info? 3 = some i ∧ i.zero = some (.int .i64 0) ∧ i.size = 1 ∧ i.bytes = 8 := by
  have h := info3_
  cases hi : Tryd.prog.info? 3 with
  | none => rw [hi] at h; cases h
  | some i =>
    rw [hi] at h
    simp only [Option.map_some, Option.some.injEq, Prod.mk.injEq] at h
    exact ⟨i, rfl, h.1, h.2.1, h.2.2⟩
abbrev intsV (l : List Int) : List Value := l.map (Value.int .i64)
section
variable {w0 w : World} {p lp : Nat} {t : Int} {d : Dsk} {L : List Res}
theorem St.appI {v : Value} {n g2 : Nat} {l : List Int} {x : Int} (H : St w0 w (rRow 3 1 v n (intsV l) :: L)) (hc : w.cell? ⟨g2, 0, none⟩ = some (.int .i64 x)) (hl : n + 1 ≤ 1048576) :
    ∃ g c w1, AppRunT 22 v (.slice (some ⟨g2, 0, none⟩) 1 1) w (.slice (some ⟨g, 0, none⟩) (n + 1) c) w1 ∧ St w0 w1 (rRow 3 1 (.slice (some ⟨g, 0, none⟩) (n + 1) c) (n + 1) (intsV (l ++ [x])) :: L) := by
  obtain ⟨i0, hi, hz0, hz1, hz2⟩ := info3
  obtain ⟨v', w1, h1, h2, h3, h4, h5⟩ := run_append_own_at (w := w) (P := Tryd.prog) (t := 22) (ty := 22) (e := 3) (base := 0) (i := i0) (z := .int .i64 0) (size := 1) (bytes := 8) (ht := Tryd.underlying22) (hi := hi) (hz := hz0) (hsize := hz1) (hby := hz2) (hzs := rfl) (hsz := by decide) (v := v) (n := n) (xs := intsV l) (hown := H.row) (a := ⟨g2, 0, none⟩) (m := 1) (c := 1) (news := [.int .i64 x]) (hl := rfl) (hnews := fun j u hj => by
    rcases j with _ | j
    · have : Value.int .i64 x = u := by simpa using hj
      subst this
      rw [addr_add]; exact hc
    · simp at hj) (h1 := fun u hu => by simp at hu; subst hu; rfl) (h63 := by simp only [maxLen]; omega) (hbytes := by omega) (hbase := Nat.zero_le _)
  obtain ⟨g, c, e, _⟩ := h2.form (by omega)
  subst e
  refine ⟨g, c, w1, ⟨h1⟩, ?_⟩
  have H1 := H.setRow h2 h3 (h5.imp_right fun e k hk => by rw [e] at hk; injection hk with hk; omega)
  have e : intsV l ++ [.int .i64 x] = intsV (l ++ [x]) := by simp [intsV]
  rwa [e] at H1
theorem St.appB {v : Value} {n g2 o2 c2 : Nat} {l : List Int} {s : List Int} (H : St w0 w (rRow 5 1 v n (bytes l) :: L)) (hs : s.length = 256) (hc : ∀ j u, (bytes s)[j]? = some u → w.cell? ⟨g2, o2 + j, none⟩ = some u) (hl : n + 256 ≤ 1048576) :
    ∃ g c w1, AppRunT 44 v (.slice (some ⟨g2, o2, none⟩) 256 c2) w (.slice (some ⟨g, 0, none⟩) (n + 256) c) w1 ∧ St w0 w1 (rRow 5 1 (.slice (some ⟨g, 0, none⟩) (n + 256) c) (n + 256) (bytes (l ++ s)) :: L) := by
  obtain ⟨i0, hi, hz0, hz1, hz2⟩ := info5
  obtain ⟨v', w1, h1, h2, h3, h4, h5⟩ := run_append_own_at (w := w) (P := Tryd.prog) (t := 44) (ty := 44) (e := 5) (base := 0) (i := i0) (z := .int .u8 0) (size := 1) (bytes := 1) (ht := Tryd.underlying44) (hi := hi) (hz := hz0) (hsize := hz1) (hby := hz2) (hzs := rfl) (hsz := by decide) (v := v) (n := n) (xs := YtfhdiddlloiglaaDoor.bytes l) (hown := H.row) (a := ⟨g2, o2, none⟩) (m := 256) (c := c2) (news := YtfhdiddlloiglaaDoor.bytes s) (hl := by simp [hs]) (hnews := fun j u hj => by
    rw [addr_add]; exact hc j u hj) (h1 := fun u hu => by obtain ⟨z, _, rfl⟩ := List.mem_map.1 hu; rfl) (h63 := by simp only [maxLen]; omega) (hbytes := by omega) (hbase := Nat.zero_le _)
  obtain ⟨g, c, e, _⟩ := h2.form (by omega)
  subst e
  refine ⟨g, c, w1, ⟨h1⟩, ?_⟩
  have H1 := H.setRow h2 h3 (h5.imp_right fun e k hk => by rw [e] at hk; injection hk with hk; omega)
  have e : YtfhdiddlloiglaaDoor.bytes l ++ YtfhdiddlloiglaaDoor.bytes s = YtfhdiddlloiglaaDoor.bytes (l ++ s) := by simp [YtfhdiddlloiglaaDoor.bytes]
  rwa [e] at H1
/-- A row of bytes, or of numbers, that is written no more. -/
theorem St.rowCells {e : TypeId} {g n c : Nat} {xs : List Value} (H : St w0 w (rRow e 1 (.slice (some ⟨g, 0, none⟩) n c) n xs :: L)) : St w0 w (rCells g 0 xs :: L) :=
  H.rowT fun T hT h1 h2 => ⟨⟨h2 g rfl, fun j u hj => by
    have := h1.cells (g := g) rfl j u hj
    rwa [addr_add] at this⟩, fun _ h => h⟩
/-- A block, that is written no more. -/
theorem St.blkCells {b : Nat} {cs : Array Value} {e : TypeId} (H : St w0 w (rBlk b (.cells cs e) :: L)) : St w0 w (rCells b 0 cs.toList :: L) :=
  H.freeze.imp fun T S h _ _ => ⟨⟨h.1.2, fun j u hj => by
    rw [Nat.zero_add, cell_of_blk h.1.1]
    rw [Array.getElem?_toList] at hj
    exact hj⟩, h.2⟩
theorem St.noRow {e : TypeId} (H : St w0 w L) : St w0 w (rRow e 1 (.slice none 0 0) 0 [] :: L) :=
  H.emp.imp fun T S h _ _ => ⟨⟨rfl, .inl ⟨rfl, rfl⟩⟩, fun i => ⟨fun hi => absurd hi (h i), fun h => by simp [Value.ownBlock] at h⟩⟩
end
/-! ### blocks to be written -/
/-- A block's place, and where its bytes lie. -/
structure BE where
  at_ : Int
  g : Nat
  o : Nat
  c : Nat
def encB (l : List BE) : List Value := l.flatMap fun x => [.int .i64 x.at_, .slice (some ⟨x.g, x.o, none⟩) 256 x.c]
theorem encB_len (l : List BE) : (encB l).length = l.length * 2 := by
  induction l with
  | nil => rfl
  | cons a r ih => show (_ :: _ :: encB r).length = _; simp [ih]; omega
theorem encB_get (l : List BE) {i : Nat} (h : i < l.length) : (encB l)[i * 2]? = some (.int .i64 l[i].at_) ∧ (encB l)[i * 2 + 1]? = some (.slice (some ⟨l[i].g, l[i].o, none⟩) 256 l[i].c) := by
  induction l generalizing i with
  | nil => simp at h
  | cons a r ih =>
    have e : encB (a :: r) = .int .i64 a.at_ :: .slice (some ⟨a.g, a.o, none⟩) 256 a.c :: encB r := rfl
    rw [e]
    cases i with
    | zero => exact ⟨rfl, rfl⟩
    | succ i =>
      have h' := ih (i := i) (by simpa using h)
      have e1 : (i + 1) * 2 = (i * 2 + 1) + 1 := by omega
      rw [e1]
      exact h'
/-- Their bytes: nobody writes them. -/
def rDats (es : List BE) (ls : List (Int × Sec)) : Res :=
  ⟨fun w T S => (es.length = ls.length ∧ ∀ (i : Nat) (e : BE) (x : Int × Sec), es[i]? = some e → ls[i]? = some x → e.at_ = x.1 ∧ 256 ≤ e.c ∧ x.2.length = 256 ∧ Bytes x.2 ∧ CellsT w T e.g e.o (bytes x.2)) ∧ ∀ i, ¬ S i, fun h i hi => absurd hi (h.2 i),
   fun h _ hk hT => ⟨⟨h.1.1, fun i e x he hx => by
     obtain ⟨a, b, c, d, f⟩ := h.1.2 i e x he hx
     exact ⟨a, b, c, d, f.kept (fun i hi => hk i (.inr hi)) hT⟩⟩, h.2⟩⟩
section
variable {w0 w : World} {p lp : Nat} {t : Int} {d : Dsk} {L : List Res}
theorem St.dat {es : List BE} {ls : List (Int × Sec)} (H : St w0 w (rDats es ls :: L)) {i : Nat} {e : BE} {x : Int × Sec} (he : es[i]? = some e) (hx : ls[i]? = some x) :
    (e.at_ = x.1 ∧ 256 ≤ e.c ∧ x.2.length = 256 ∧ Bytes x.2) ∧ St w0 w (rCells e.g e.o (bytes x.2) :: rDats es ls :: L) := by
  obtain ⟨T, S, h, hd⟩ := H.withT
  obtain ⟨a, b, c, d, f⟩ := h.1.2 i e x he hx
  exact ⟨⟨a, b, c, d⟩, hd _ ⟨f, fun _ h => h⟩⟩
end
end Go.Proofs.YtfhdiddlloiglaaDoor
end
section
/- The log's small functions. -/
namespace Go.Proofs.YtfhdiddlloiglaaDoor
open Go.RowKit Go.Proofs.YtfhdiddlloiglaaDoorW.PrintWords
attribute [local go_sem ↓] Go.wp_at_zero Go.wp_at_succ
set_option linter.unusedVariables false
set_option linter.unusedSimpArgs false
set_option maxRecDepth 100000

section
variable {w0 w : World} {p lp : Nat} {t : Int} {d : Dsk} {L : List Res}
set_option maxHeartbeats 600000 in
theorem St.placeC (H : St w0 w (rDisk p d :: L)) (a c : Int) (ha : -9223372036854775808 ≤ a ∧ a ≤ 9223372036854775807) : Calls Tryd.prog 32 #[.pointer (some ⟨p, 0, none⟩), .int .i64 a, .int .i64 c] w fun e w' => e = .returned (.bool (decide (place d.vals.length a c))) ∧ w' = w := by
  have hs := H.sectors
  have hn := H.diskOk.n2
  obtain ⟨n, hnd⟩ : ∃ n, n = d.vals.length := ⟨_, rfl⟩
  rw [← hnd] at hs hn ⊢
  have HS := Aside0.mk hs
  clear H hs hnd
  by_cases h1 : 1 ≤ c
  · have b1 : decide (1 ≤ c) = true := decide_eq_true h1
    by_cases h2 : c ≤ 100
    · have b2 : decide (c ≤ 100) = true := decide_eq_true h2
      by_cases h3 : 0 ≤ a
      · have b3 : decide (0 ≤ a) = true := decide_eq_true h3
        have wr : wrap64 ((n : Int) - c) = (n : Int) - c := by unfold wrap64; omega
        have wi : IntKind.i64.wrap ((n : Int) - c) = (n : Int) - c := by rw [IntWalk.i64_in _ (by omega)]
        have hr : decide (place n a c) = decide (a < (n : Int) - c) := by unfold place; simp [h1, h2, h3]
        have HR := Aside0.mk hr
        clear hr wr
        go_enter Tryd.func32, Tryd.ntmps32
        go_wp2_with fail
        refine HS.out.mono ?_
        rintro e w1 ⟨rfl, rfl⟩
        go_wp2
        go_ret
        rw [HR.out]
        exact ⟨rfl, rfl⟩
      · have b3 : decide (0 ≤ a) = false := decide_eq_false h3
        have hr : decide (place n a c) = false := by unfold place; simp [h3]
        have HR := Aside0.mk hr
        clear hr
        go_enter Tryd.func32, Tryd.ntmps32
        go_wp2
        go_ret
        rw [HR.out]
        exact ⟨rfl, rfl⟩
    · have b2 : decide (c ≤ 100) = false := decide_eq_false h2
      have hr : decide (place n a c) = false := by unfold place; simp [h2]
      have HR := Aside0.mk hr
      clear hr
      go_enter Tryd.func32, Tryd.ntmps32
      go_wp2
      go_ret
      rw [HR.out]
      exact ⟨rfl, rfl⟩
  · have b1 : decide (1 ≤ c) = false := decide_eq_false h1
    have hr : decide (place n a c) = false := by unfold place; simp [h1]
    have HR := Aside0.mk hr
    clear hr
    go_enter Tryd.func32, Tryd.ntmps32
    go_wp2
    go_ret
    rw [HR.out]
    exact ⟨rfl, rfl⟩
end
end Go.Proofs.YtfhdiddlloiglaaDoor
end
section
/- The log's small functions: whether homes rise; what a log is; one home that is out. -/
namespace Go.Proofs.YtfhdiddlloiglaaDoor
open Go.RowKit Go.Proofs.YtfhdiddlloiglaaDoorW.PrintWords
attribute [local go_sem ↓] Go.wp_at_zero Go.wp_at_succ
set_option linter.unusedVariables false
set_option linter.unusedSimpArgs false
set_option maxRecDepth 100000

theorem rising_iff : ∀ l : List Int, Rising l ↔ ∀ j, j + 1 < l.length → l.getD j 0 < l.getD (j + 1) 0
  | [] => ⟨fun _ j hj => absurd hj (by simp), fun _ => trivial⟩
  | [_] => ⟨fun _ j hj => absurd hj (by simp), fun _ => trivial⟩
  | x :: y :: r => by
    show (x < y ∧ Rising (y :: r)) ↔ _
    rw [rising_iff (y :: r)]
    constructor
    · rintro ⟨h1, h2⟩ j hj
      cases j with
      | zero => exact h1
      | succ j => exact h2 j (by simpa using hj)
    · intro h
      exact ⟨h 0 (by simp), fun j hj => h (j + 1) (by simpa using hj)⟩
set_option maxHeartbeats 1000000 in
theorem rising_calls {w : World} {A : Option Addr} {n c : Nat} {l : List Int} (h : RdI w A l) (hn : l.length = n) (hb : n ≤ 1048576) : Calls Tryd.prog 55 #[.slice A n c] w fun e w' => e = .returned (.bool (decide (Rising l))) ∧ Below w.heap.size w w' := by
  have H := Aside0.mk h
  have HN := Aside0.mk hn
  have HB := Aside0.mk (Below.refl w.heap.size w)
  clear h hn
  go_enter Tryd.func55, Tryd.ntmps55
  go_wp2_with fail
  go_loopw [3] (fun i W => ∃ k : Nat, i = .int .i64 (k : Int) ∧ 1 ≤ k ∧ Aside0 (∀ j, j + 1 < k → l.getD j 0 < l.getD (j + 1) 0) ∧ Aside0 (Below w.heap.size w W)) (fun i _ => n - (RowKit.intOf i).toNat)
  case atStart => exact ⟨1, rfl, Nat.le_refl _, ⟨fun j hj => absurd hj (by omega)⟩, HB⟩
  case round =>
    clear HB
    obtain ⟨k, rfl, hk, HF, HB⟩ := hrel
    by_cases hlt : k < n
    · obtain ⟨m, hm⟩ : ∃ m, k = m + 1 := ⟨k - 1, by omega⟩
      have t1 : decide ((k : Int) < (n : Int)) = true := decide_eq_true (by omega)
      have t2 : (0 : Int) ≤ (k : Int) := by omega
      have t3 : (k : Int) < (n : Int) := by omega
      have t4 : (m : Int) < (n : Int) := by omega
      have wr : wrap64 ((k : Int) - 1) = (m : Int) := by unfold wrap64; omega
      have wi : IntKind.i64.wrap ((k : Int) - 1) = (m : Int) := by rw [IntWalk.i64_in _ (by omega)]; omega
      have e1 := HN.out
      obtain ⟨a1, rfl, hc1⟩ := RdI.at_ (Kd.C_below H.out HB.out) (j := m) (by omega)
      obtain ⟨a2, ha, hc2⟩ := RdI.at_ (Kd.C_below H.out HB.out) (j := k) (by omega)
      cases ha
      have HB2 := Aside0.mk HB.out.drew
      generalize hx : l.getD m 0 = x at hc1
      generalize hy : l.getD k 0 = y at hc2
      have HX := Aside0.mk hx
      have HY := Aside0.mk hy
      have HM := Aside0.mk hm
      clear e1 hx hy hm
      by_cases hxy : y ≤ x
      · have bx : decide (y ≤ x) = true := decide_eq_true hxy
        have hd : decide (Rising l) = false := decide_eq_false fun e => by
          have hm := HM.out
          have h1 := (rising_iff l).1 e m (by rw [HN.out]; omega)
          rw [HX.out, ← hm, HY.out] at h1
          omega
        have HD := Aside0.mk hd
        clear hd
        go_wp2_with fail
        go_region_held3 (fun W => W.cell? (a1.add m) = some (.int .i64 x) ∧ W.cell? (a1.add k) = some (.int .i64 y)) (go_keep) (fail)
        go_wp2
        go_ret
        exact ⟨by rw [HD.out]; rfl, HB2.out⟩
      · have bx : decide (y ≤ x) = false := decide_eq_false hxy
        have hlt2 : x < y := by omega
        have HL := Aside0.mk hlt2
        clear hlt2
        go_wp2_with fail
        go_region_held3 (fun W => W.cell? (a1.add m) = some (.int .i64 x) ∧ W.cell? (a1.add k) = some (.int .i64 y)) (go_keep) (fail)
        go_wp2
        go_roundw
        case rel => exact ⟨k + 1, by go_num, by omega, ⟨fun j hj => by
          have hm := HM.out
          by_cases e : j = m
          · subst e; rw [HX.out, ← hm, HY.out]; exact HL.out
          · exact HF.out j (by omega)⟩, HB2⟩
        case measure => simp only [RowKit.intOf]; omega
    · have t1 : decide ((k : Int) < (n : Int)) = false := decide_eq_false (by omega)
      have hd : decide (Rising l) = true := decide_eq_true ((rising_iff l).2 fun j hj => HF.out j (by rw [HN.out] at hj; omega))
      have HD := Aside0.mk hd
      clear hd
      go_wp2
      go_ret
      exact ⟨by rw [HD.out]; rfl, HB.out⟩
end Go.Proofs.YtfhdiddlloiglaaDoor
end
section
/- What a log is; its turn, its home, its capacity. -/
namespace Go.Proofs.YtfhdiddlloiglaaDoor
open Go.RowKit Go.Proofs.YtfhdiddlloiglaaDoorW.PrintWords
attribute [local go_sem ↓] Go.wp_at_zero Go.wp_at_succ
set_option linter.unusedVariables false
set_option linter.unusedSimpArgs false
set_option maxRecDepth 100000

section
variable {w : World} {lp p : Nat} {g : Lg}
theorem walObj.cells (h : w.heap[lp]? = some (walObj p g)) : w.cell? ⟨lp, 0, none⟩ = some (.pointer (some ⟨p, 0, none⟩)) ∧ w.cell? ⟨lp, 1, none⟩ = some (.int .i64 g.a) ∧ w.cell? ⟨lp, 2, none⟩ = some (.int .i64 g.c) ∧ w.cell? ⟨lp, 3, none⟩ = some (.int .i64 g.turn) ∧ w.cell? ⟨lp, 4, none⟩ = some (.bool g.off) := by
  exact ⟨cell_of_blk h 0, cell_of_blk h 1, cell_of_blk h 2, cell_of_blk h 3, cell_of_blk h 4⟩
theorem wal_is (c0 : w.cell? ⟨lp, 0, none⟩ = some (.pointer (some ⟨p, 0, none⟩))) : Calls Tryd.prog 34 #[.pointer (some ⟨lp, 0, none⟩)] w fun e w' => e = .returned (.bool true) ∧ w' = w := by
  go_enter Tryd.func34, Tryd.ntmps34
  go_wp2
  go_ret
  exact ⟨rfl, rfl⟩
theorem wal_isNil : Calls Tryd.prog 34 #[.pointer none] w fun e w' => e = .returned (.bool false) ∧ w' = w := by
  go_enter Tryd.func34, Tryd.ntmps34
  go_wp2
  go_ret
  exact ⟨rfl, rfl⟩
theorem wal_isZero (c0 : w.cell? ⟨lp, 0, none⟩ = some (.pointer none)) : Calls Tryd.prog 34 #[.pointer (some ⟨lp, 0, none⟩)] w fun e w' => e = .returned (.bool false) ∧ w' = w := by
  go_enter Tryd.func34, Tryd.ntmps34
  go_wp2
  go_ret
  exact ⟨rfl, rfl⟩
theorem wal_turn (c0 : w.cell? ⟨lp, 0, none⟩ = some (.pointer (some ⟨p, 0, none⟩))) {t : Int} (c3 : w.cell? ⟨lp, 3, none⟩ = some (.int .i64 t)) : Calls Tryd.prog 13 #[.pointer (some ⟨lp, 0, none⟩)] w fun e w' => e = .returned (.int .i64 t) ∧ w' = w := by
  have hi := wal_is c0
  go_enter Tryd.func13, Tryd.ntmps13
  go_wp2_with fail
  refine hi.mono ?_
  rintro e w1 ⟨rfl, rfl⟩
  clear hi
  go_wp2
  go_ret
  exact ⟨rfl, rfl⟩
theorem wal_cap (c0 : w.cell? ⟨lp, 0, none⟩ = some (.pointer (some ⟨p, 0, none⟩))) {t : Int} (c3 : w.cell? ⟨lp, 2, none⟩ = some (.int .i64 t)) : Calls Tryd.prog 15 #[.pointer (some ⟨lp, 0, none⟩)] w fun e w' => e = .returned (.int .i64 t) ∧ w' = w := by
  have hi := wal_is c0
  go_enter Tryd.func15, Tryd.ntmps15
  go_wp2_with fail
  refine hi.mono ?_
  rintro e w1 ⟨rfl, rfl⟩
  clear hi
  go_wp2
  go_ret
  exact ⟨rfl, rfl⟩
theorem wal_home (c0 : w.cell? ⟨lp, 0, none⟩ = some (.pointer (some ⟨p, 0, none⟩))) {a c : Int} (c1 : w.cell? ⟨lp, 1, none⟩ = some (.int .i64 a)) (c2 : w.cell? ⟨lp, 2, none⟩ = some (.int .i64 c)) (ha : 0 ≤ a ∧ a ≤ 1048576) (hc : 0 ≤ c ∧ c ≤ 100) :
    Calls Tryd.prog 14 #[.pointer (some ⟨lp, 0, none⟩)] w fun e w' => e = .returned (.int .i64 (a + c + 1)) ∧ Below w.heap.size w w' := by
  have hi := wal_is c0
  have wr1 : wrap64 (a + c) = a + c := by unfold wrap64; omega
  have wr2 : wrap64 (a + c + 1) = a + c + 1 := by unfold wrap64; omega
  have wi1 : IntKind.i64.wrap (a + c) = a + c := by rw [IntWalk.i64_in _ (by omega)]
  have wi2 : IntKind.i64.wrap (a + c + 1) = a + c + 1 := by rw [IntWalk.i64_in _ (by omega)]
  go_enter Tryd.func14, Tryd.ntmps14
  go_wp2_with fail
  refine hi.mono ?_
  rintro e w1 ⟨rfl, rfl⟩
  clear hi
  go_wp2_with fail
  go_region_held3 (fun W => W.cell? ⟨lp, 1, none⟩ = some (.int .i64 a) ∧ W.cell? ⟨lp, 2, none⟩ = some (.int .i64 c)) (go_keep) (fail)
  go_wp2
  go_ret
  exact ⟨rfl, (Below.refl _ _).drew⟩
theorem wal_nil : Calls Tryd.prog 13 #[.pointer none] w (fun e w' => e = .returned (.int .i64 0) ∧ w' = w) ∧ Calls Tryd.prog 14 #[.pointer none] w (fun e w' => e = .returned (.int .i64 0) ∧ w' = w) ∧ Calls Tryd.prog 15 #[.pointer none] w (fun e w' => e = .returned (.int .i64 0) ∧ w' = w) := by
  have hi : Calls Tryd.prog 34 #[.pointer none] w fun e w' => e = .returned (.bool false) ∧ w' = w := wal_isNil
  refine ⟨?_, ?_, ?_⟩
  · go_enter Tryd.func13, Tryd.ntmps13
    go_wp2_with fail
    refine hi.mono ?_
    rintro e w1 ⟨rfl, rfl⟩
    go_wp2
    go_ret
    exact ⟨rfl, rfl⟩
  · go_enter Tryd.func14, Tryd.ntmps14
    go_wp2_with fail
    refine hi.mono ?_
    rintro e w1 ⟨rfl, rfl⟩
    go_wp2
    go_ret
    exact ⟨rfl, rfl⟩
  · go_enter Tryd.func15, Tryd.ntmps15
    go_wp2_with fail
    refine hi.mono ?_
    rintro e w1 ⟨rfl, rfl⟩
    go_wp2
    go_ret
    exact ⟨rfl, rfl⟩
theorem wal_zero (c0 : w.cell? ⟨lp, 0, none⟩ = some (.pointer none)) : Calls Tryd.prog 13 #[.pointer (some ⟨lp, 0, none⟩)] w (fun e w' => e = .returned (.int .i64 0) ∧ w' = w) ∧ Calls Tryd.prog 14 #[.pointer (some ⟨lp, 0, none⟩)] w (fun e w' => e = .returned (.int .i64 0) ∧ w' = w) ∧ Calls Tryd.prog 15 #[.pointer (some ⟨lp, 0, none⟩)] w (fun e w' => e = .returned (.int .i64 0) ∧ w' = w) := by
  have hi := wal_isZero c0
  refine ⟨?_, ?_, ?_⟩
  · go_enter Tryd.func13, Tryd.ntmps13
    go_wp2_with fail
    refine hi.mono ?_
    rintro e w1 ⟨rfl, rfl⟩
    go_wp2
    go_ret
    exact ⟨rfl, rfl⟩
  · go_enter Tryd.func14, Tryd.ntmps14
    go_wp2_with fail
    refine hi.mono ?_
    rintro e w1 ⟨rfl, rfl⟩
    go_wp2
    go_ret
    exact ⟨rfl, rfl⟩
  · go_enter Tryd.func15, Tryd.ntmps15
    go_wp2_with fail
    refine hi.mono ?_
    rintro e w1 ⟨rfl, rfl⟩
    go_wp2
    go_ret
    exact ⟨rfl, rfl⟩
end
end Go.Proofs.YtfhdiddlloiglaaDoor
end
section
/- wal's (*Wal).steps. -/
namespace Go.Proofs.YtfhdiddlloiglaaDoor
open Go.RowKit Go.Proofs.YtfhdiddlloiglaaDoorW.PrintWords
attribute [local go_sem ↓] Go.wp_at_zero Go.wp_at_succ
set_option linter.unusedVariables false
set_option linter.unusedSimpArgs false
set_option maxRecDepth 100000

theorem dataS_app : ∀ (l : List (Int × Sec)) (a : Int) (x : Int × Sec), dataS a (l ++ [x]) = dataS a l ++ [.wr (a + l.length) x.2]
  | [], a, x => by simp [dataS]
  | y :: r, a, x => by
    rw [List.cons_append, dataS, dataS_app r (a + 1) x, dataS, List.cons_append]
    congr 4
    rw [List.length_cons]; omega
theorem dataS_len : ∀ (l : List (Int × Sec)) (a : Int), (dataS a l).length = l.length
  | [], a => rfl
  | x :: r, a => by rw [dataS, List.length_cons, dataS_len r, List.length_cons]
/-- What a round of steps has. -/
def SW (p lp : Nat) (t : Int) (g : Lg) (xb wb lb cl n : Nat) (vO vh vd : Value) (j : Nat) (es : List BE) (ls : List (Int × Sec)) (L : List Res) : List Res :=
  rSteps p lp t vO (dataS (g.a + 1) (ls.take j)) :: rBlk xb (.cells #[.int .i64 t, vh, vd] 62) :: rRow 3 1 vh j (intsV (homesOf (ls.take j))) :: rRow 5 1 vd (j * 256) (bytes (dataOf (ls.take j))) ::
    rCells wb 0 [.pointer (some ⟨lp, 0, none⟩)] :: rBlk lp (walObj p g) :: rRow 48 2 (.slice (some ⟨lb, 0, none⟩) n cl) n (encB es) :: rDats es ls :: L
section
variable {w0 w : World} {p lp : Nat} {t : Int} {d : Dsk} {L : List Res}
theorem St.writeStepOn {g o c : Nat} {i : Int} {b : Sec} {vs : List Value} {l : List Stp} (H : St w0 w (rCells g o (bytes b) :: rStepVs p lp t vs l :: L)) (hb : b.length = 256) (hby : Bytes b) :
    CallAt 57 #[.pointer (some ⟨p, 0, none⟩), .int .i64 i, .slice (some ⟨g, o, none⟩) 256 c] w fun e w' => ∃ b1 b2 b3 : Nat, e = .returned (.func (.func 71) #[] #[.pointer (some ⟨b1, 0, none⟩), .pointer (some ⟨b2, 0, none⟩), .pointer (some ⟨b3, 0, none⟩)]) ∧ St w0 w' (rStepVs p lp t (.func (.func 71) #[] #[.pointer (some ⟨b1, 0, none⟩), .pointer (some ⟨b2, 0, none⟩), .pointer (some ⟨b3, 0, none⟩)] :: vs) (.wr i b :: l) :: L) :=
  ⟨(write_calls w (.pointer (some ⟨p, 0, none⟩)) ⟨_, rfl⟩ i (some ⟨g, o, none⟩) 256 c).mono fun e w' h => ⟨_, _, _, h.1, by
    rw [h.2]
    exact (H.box3 _ _ _).wrStep hb hby⟩⟩
theorem St.writeStep {g o c : Nat} {i : Int} {b : Sec} (H : St w0 w (rCells g o (bytes b) :: L)) (hb : b.length = 256) (hby : Bytes b) :
    CallAt 57 #[.pointer (some ⟨p, 0, none⟩), .int .i64 i, .slice (some ⟨g, o, none⟩) 256 c] w fun e w' => ∃ b1 b2 b3 : Nat, e = .returned (.func (.func 71) #[] #[.pointer (some ⟨b1, 0, none⟩), .pointer (some ⟨b2, 0, none⟩), .pointer (some ⟨b3, 0, none⟩)]) ∧ St w0 w' (rStepVs p lp t [.func (.func 71) #[] #[.pointer (some ⟨b1, 0, none⟩), .pointer (some ⟨b2, 0, none⟩), .pointer (some ⟨b3, 0, none⟩)]] [.wr i b] :: L) :=
  ⟨(write_calls w (.pointer (some ⟨p, 0, none⟩)) ⟨_, rfl⟩ i (some ⟨g, o, none⟩) 256 c).mono fun e w' h => ⟨_, _, _, h.1, by
    rw [h.2]
    exact ((St.swap (H.noStep (p := p) (lp := lp) (t := t))).box3 _ _ _).wrStep hb hby⟩⟩
set_option maxHeartbeats 6000000 in
theorem St.steps {g : Lg} {lb cl n : Nat} {es : List BE} {ls : List (Int × Sec)} (H : St w0 w (rBlk lp (walObj p g) :: rRow 48 2 (.slice (some ⟨lb, 0, none⟩) n cl) n (encB es) :: rDats es ls :: L)) (hT : Half w0) (ht0 : 0 ≤ g.turn) (ht1 : g.turn < 4294967296) (ha0 : 0 ≤ g.a) (ha1 : g.a ≤ 4096)
    (ht : t = nextTurn g.turn) (hn : ls.length = n) (hn1 : 1 ≤ n) (hn2 : n ≤ 100) (hh : ∀ x ∈ ls, 0 ≤ x.1 ∧ x.1 < 65536) :
    Calls Tryd.prog 39 #[.pointer (some ⟨lp, 0, none⟩), .slice (some ⟨lb, 0, none⟩) n cl] w fun e w' =>
      ∃ gg cc m, m ≤ 300 ∧ e = .returned (.slice (some ⟨gg, 0, none⟩) m cc) ∧ (stepsS g.a t ls).length = m ∧ St w0 w' (rSteps p lp t (.slice (some ⟨gg, 0, none⟩) m cc) (stepsS g.a t ls) :: rBlk lp (walObj p g) :: L) := by
  obtain ⟨wb, hwb⟩ : ∃ wb, wb = w.heap.size := ⟨_, rfl⟩
  have hxw : (w.alloc (.cells #[.pointer (some ⟨lp, 0, none⟩)] 24)).heap.size = wb + 1 := by rw [hwb]; simp
  have e0 : encB es = encB es := rfl
  have hsz : es.length = ls.length := by obtain ⟨T, S, h, _⟩ := H.drop.drop.fst; exact h.1.1
  have H1 : St w0 (w.alloc (.cells #[.pointer (some ⟨lp, 0, none⟩)] 24)) (rCells wb 0 [.pointer (some ⟨lp, 0, none⟩)] :: rBlk lp (walObj p g) :: rRow 48 2 (.slice (some ⟨lb, 0, none⟩) n cl) n (encB es) :: rDats es ls :: L) := by rw [hwb]; exact H.box _ _
  have c3 : (w.alloc (.cells #[.pointer (some ⟨lp, 0, none⟩)] 24)).cell? ⟨lp, 3, none⟩ = some (.int .i64 g.turn) := cell_of_blk H1.drop.blk 3
  have u1 : IntKind.u32.wrap g.turn = g.turn := by simp only [IntKind.wrap, IntKind.bits, IntKind.signed]; simp; omega
  have u2 : IntKind.u32.wrap (g.turn + 1) = t := by rw [ht]; simp only [IntKind.wrap, IntKind.bits, IntKind.signed, nextTurn]; simp
  have tb0 : 0 ≤ t := by rw [ht]; unfold nextTurn; omega
  have tb1 : t < 4294967296 := by rw [ht]; unfold nextTurn; omega
  have u3 : IntKind.i64.wrap t = t := by rw [IntWalk.i64_in _ (by omega)]
  have H2 := ((((H1.noRow (e := 5)).noRow (e := 3)).alloc (.cells #[.int .i64 t, .slice none 0 0, .slice none 0 0] 62)).noSteps (p := p) (lp := lp) (t := t))
  rw [hxw] at H2
  have HT := Aside0.mk hT
  have HN := Aside0.mk hn
  have HH := Aside0.mk hh
  have HSZ := Aside0.mk hsz
  have HHT := Aside0.mk ht
  have HWB := Aside0.mk hwb
  have H2 : Aside0 (St w0 ((w.alloc (.cells #[.pointer (some ⟨lp, 0, none⟩)] 24)).alloc (.cells #[.int .i64 t, .slice none 0 0, .slice none 0 0] 62)) (SW p lp t g (wb + 1) wb lb cl n (.slice none 0 0) (.slice none 0 0) (.slice none 0 0) 0 es ls L)) := ⟨H2⟩
  generalize hW : (w.alloc (.cells #[.pointer (some ⟨lp, 0, none⟩)] 24)).alloc (.cells #[.int .i64 t, .slice none 0 0, .slice none 0 0] 62) = W0 at H2
  have HW := Aside0.mk hW
  clear H H1 hT hn hh hsz ht hxw e0 hW
  go_enter Tryd.func39, Tryd.ntmps39
  go_upto_region 3 with fail
  rw [HW.out, ← hwb]
  clear hwb HW c3 u1 u2
  go_wp2_with fail
  go_loopw [6, 20] (fun v6 v20 W => ∃ (j : Nat) (vh vd : Value), v20 = .int .i64 (j : Int) ∧ j ≤ n ∧ Aside0 (St w0 W (SW p lp t g (wb + 1) wb lb cl n v6 vh vd j es ls L)) ∧ (0 < j → (∃ g c, v6 = .slice (some ⟨g, 0, none⟩) j c) ∧ (∃ g c, vh = .slice (some ⟨g, 0, none⟩) j c) ∧ ∃ g c, vd = .slice (some ⟨g, 0, none⟩) (j * 256) c)) (fun _ v20 _ => n - (RowKit.intOf v20).toNat)
  case atStart => exact ⟨0, _, _, rfl, Nat.zero_le _, H2, fun h => absurd h (by omega)⟩
  case round =>
    clear H2
    obtain ⟨j, vh, vd, rfl, hj, HJ, hform⟩ := hrel
    by_cases hjn : j < n
    · have t1 : decide ((j : Int) < (n : Int)) = true := decide_eq_true (by omega)
      have t1' : (j : Int) < (n : Int) := by omega
      have hjl : j < ls.length := by rw [HN.out]; exact hjn
      have hje : j < es.length := by rw [HSZ.out]; exact hjl
      obtain ⟨x, hx⟩ : ∃ x, x = ls[j] := ⟨_, rfl⟩
      obtain ⟨e, he⟩ : ∃ e, e = es[j] := ⟨_, rfl⟩
      obtain ⟨bb, hbb⟩ : ∃ bb, bb = wr.heap.size := ⟨_, rfl⟩
      have hrow := HJ.out.drop.drop.drop.drop.drop.drop.row
      have hg := encB_get es hje
      rw [← he] at hg
      have l0 := hrow.cells (g := lb) rfl _ _ hg.1
      have l1 := hrow.cells (g := lb) rfl _ _ hg.2
      rw [addr_add, Nat.zero_add] at l0 l1
      have q0 : (0 : Int) ≤ (j : Int) := by omega
      have HJ1 := HJ.out.alloc (.cells #[.int .i64 e.at_, .slice (some ⟨e.g, e.o, none⟩) 256 e.c] 48)
      rw [← hbb] at HJ1
      have HX := Aside0.mk hx
      have HE := Aside0.mk he
      have HBB := Aside0.mk hbb
      clear hrow hg hx he
      go_upto_region 6 with fail
      rw [← hbb]
      clear hbb l0 l1
      generalize wr.alloc (.cells #[.int .i64 e.at_, .slice (some ⟨e.g, e.o, none⟩) 256 e.c] 48) = W1 at *
      go_cut [6] (fun v6 W => v6 = u6 ∧ ∃ gh ch gd cd : Nat, Aside0 (St w0 W (rBlk (wb + 1) (.cells #[.int .i64 t, .slice (some ⟨gh, 0, none⟩) (j + 1) ch, .slice (some ⟨gd, 0, none⟩) ((j + 1) * 256) cd] 62) :: rRow 5 1 (.slice (some ⟨gd, 0, none⟩) ((j + 1) * 256) cd) ((j + 1) * 256) (bytes (dataOf (ls.take (j + 1)))) ::
        rRow 3 1 (.slice (some ⟨gh, 0, none⟩) (j + 1) ch) (j + 1) (intsV (homesOf (ls.take (j + 1)))) :: rBlk bb (.cells #[.int .i64 e.at_, .slice (some ⟨e.g, e.o, none⟩) 256 e.c] 48) :: rSteps p lp t u6 (dataS (g.a + 1) (ls.take j)) :: rCells wb 0 [.pointer (some ⟨lp, 0, none⟩)] :: rBlk lp (walObj p g) :: rRow 48 2 (.slice (some ⟨lb, 0, none⟩) n cl) n (encB es) :: rDats es ls :: L)))
      case first =>
        as_aux_lemma =>
          have HD : St w0 W1.drew (rBlk bb (.cells #[.int .i64 e.at_, .slice (some ⟨e.g, e.o, none⟩) 256 e.c] 48) :: SW p lp t g (wb + 1) wb lb cl n u6 vh vd j es ls L) := HJ1.drew
          have hz : W1.drew.heap.size = W1.heap.size := rfl
          have m0 : ∀ W M, St w0 W (rBlk bb (.cells #[.int .i64 e.at_, .slice (some ⟨e.g, e.o, none⟩) 256 e.c] 48) :: M) → W.cell? ⟨bb, 0, none⟩ = some (.int .i64 e.at_) ∧ W.cell? ⟨bb, 1, none⟩ = some (.slice (some ⟨e.g, e.o, none⟩) 256 e.c) := fun W M h => ⟨cell_of_blk h.blk 0, cell_of_blk h.blk 1⟩
          have m1 : ∀ W M, St w0 W (rBlk (wb + 1) (.cells #[.int .i64 t, vh, vd] 62) :: M) → W.cell? ⟨wb + 1, 1, none⟩ = some vh ∧ W.cell? ⟨wb + 1, 2, none⟩ = some vd := fun W M h => ⟨cell_of_blk h.blk 1, cell_of_blk h.blk 2⟩
          -- W1.drew
          obtain ⟨a0, a1⟩ := m0 _ _ HD
          obtain ⟨a2, a3⟩ := m1 _ _ HD.drop.drop
          -- behind buildSlice
          have HB := HD.alloc (.cells #[.int .i64 e.at_] 3)
          have hw1 : W1.drew.alloc (.cells #[.int .i64 e.at_] 3) = (W1.alloc (.cells #[.int .i64 e.at_] 3)).drew := rfl
          rw [hz, hw1] at HB
          obtain ⟨b0, b1⟩ := m0 _ _ HB.drop
          obtain ⟨b2, b3⟩ := m1 _ _ HB.drop.drop.drop
          have hcb : (W1.alloc (.cells #[.int .i64 e.at_] 3)).drew.cell? ⟨W1.heap.size, 0, none⟩ = some (.int .i64 e.at_) := cell_of_blk HB.blk 0
          -- the first append
          have HB2 : St w0 (W1.alloc (.cells #[.int .i64 e.at_] 3)).drew (rRow 3 1 vh j (intsV (homesOf (ls.take j))) :: rBlk bb (.cells #[.int .i64 e.at_, .slice (some ⟨e.g, e.o, none⟩) 256 e.c] 48) :: rSteps p lp t u6 (dataS (g.a + 1) (ls.take j)) :: rBlk (wb + 1) (.cells #[.int .i64 t, vh, vd] 62) :: rRow 5 1 vd (j * 256) (bytes (dataOf (ls.take j))) :: rCells wb 0 [.pointer (some ⟨lp, 0, none⟩)] :: rBlk lp (walObj p g) :: rRow 48 2 (.slice (some ⟨lb, 0, none⟩) n cl) n (encB es) :: rDats es ls :: L) := St.rot4 HB.drop
          obtain ⟨gh, ch, W2, fh, H2⟩ := HB2.appI hcb (by omega)
          obtain ⟨c0, c1⟩ := m0 _ _ H2.drop
          obtain ⟨c2, c3⟩ := m1 _ _ H2.drop.drop.drop
          -- the second append
          have hdat := (H2.drop.drop.drop.drop.drop.drop.drop.drop)
          obtain ⟨hxe, hdat2⟩ := hdat.dat (i := j) (e := e) (x := x) (by rw [HE.out, List.getElem?_eq_getElem hje]) (by rw [HX.out, List.getElem?_eq_getElem hjl])
          have hsrc := hdat2.rcells
          have H2r : St w0 W2 (rRow 5 1 vd (j * 256) (bytes (dataOf (ls.take j))) :: rRow 3 1 (.slice (some ⟨gh, 0, none⟩) (j + 1) ch) (j + 1) (intsV (homesOf (ls.take j) ++ [e.at_])) :: rBlk bb (.cells #[.int .i64 e.at_, .slice (some ⟨e.g, e.o, none⟩) 256 e.c] 48) :: rSteps p lp t u6 (dataS (g.a + 1) (ls.take j)) :: rBlk (wb + 1) (.cells #[.int .i64 t, vh, vd] 62) :: rCells wb 0 [.pointer (some ⟨lp, 0, none⟩)] :: rBlk lp (walObj p g) :: rRow 48 2 (.slice (some ⟨lb, 0, none⟩) n cl) n (encB es) :: rDats es ls :: L) := St.rot5 H2
          obtain ⟨gd, cd, W3, fd, H3⟩ := H2r.appB (c2 := e.c) hxe.2.2.1 hsrc (by omega)
          have hblk3 := H3.drop.drop.drop.drop.blk
          have s1 : W3.cell? ⟨wb + 1, 1, none⟩ = some vh := cell_of_blk hblk3 1
          have s2 : W3.cell? ⟨wb + 1, 2, none⟩ = some vd := cell_of_blk hblk3 2
          have z1 : W3.frozen? ⟨wb + 1, 1, none⟩ = false := free_of_blk hblk3 1
          have z2 : W3.frozen? ⟨wb + 1, 2, none⟩ = false := free_of_blk hblk3 2
          have etk : ls.take (j + 1) = ls.take j ++ [x] := by rw [List.take_succ_eq_append_getElem hjl, HX.out]
          have e1 : homesOf (ls.take j) ++ [e.at_] = homesOf (ls.take (j + 1)) := by rw [etk, homesOf, homesOf, List.map_append, hxe.1]; rfl
          have e2 : dataOf (ls.take j) ++ x.2 = dataOf (ls.take (j + 1)) := by rw [etk, dataOf, dataOf, List.flatMap_append]; simp
          have e3 : j * 256 + 256 = (j + 1) * 256 := by omega
          rw [e1, e2, e3] at H3
          have H4 := ((St.rot5 H3).setCell 1 (.slice (some ⟨gh, 0, none⟩) (j + 1) ch)).setCell 2 (.slice (some ⟨gd, 0, none⟩) ((j + 1) * 256) cd)
          rw [e3] at fd
          clear etk e1 e2 e3
          have H4 := Aside0.mk H4
          clear HD HB HB2 H2 H2r hdat hdat2 hsrc hblk3 m0 m1 hcb HJ1 hz hw1 hxe hform HJ H3
          clear HT HN HH HSZ HHT HWB tb0 tb1 u3 ht0 ht1 ha0 ha1 hn1 hn2 HBB q0 t1 t1'
          go_region_law ((first
              | (refine step_appT rfl (.tmp 26) (.tmp 29) rfl rfl fh rfl rfl ?_)
              | (refine step_appT rfl (.tmp 32) (.tmp 34) rfl rfl fd rfl rfl ?_)))
          all_goals (
            go_wp2
            go_meet
            exact ⟨rfl, gh, ch, gd, cd, H4⟩)
      case rest =>
        obtain ⟨rfl, gh, ch, gd, cd, HC⟩ := hcut
        have hxe : e.at_ = x.1 ∧ 256 ≤ e.c ∧ x.2.length = 256 ∧ Bytes x.2 := (HJ.out.drop.drop.drop.drop.drop.drop.drop.dat (i := j) (e := e) (x := x) (by rw [HE.out, List.getElem?_eq_getElem hje]) (by rw [HX.out, List.getElem?_eq_getElem hjl])).1
        have hdat := ((St.rot9 (St.rot5 HC.out)).dat (i := j) (e := e) (x := x) (by rw [HE.out, List.getElem?_eq_getElem hje]) (by rw [HX.out, List.getElem?_eq_getElem hjl])).2.drew
        have hS : ∀ W M, St w0 W (rBlk bb (.cells #[.int .i64 e.at_, .slice (some ⟨e.g, e.o, none⟩) 256 e.c] 48) :: rCells wb 0 [.pointer (some ⟨lp, 0, none⟩)] :: rBlk lp (walObj p g) :: M) →
            W.cell? ⟨wb, 0, none⟩ = some (.pointer (some ⟨lp, 0, none⟩)) ∧ W.cell? ⟨lp, 0, none⟩ = some (.pointer (some ⟨p, 0, none⟩)) ∧ W.cell? ⟨lp, 1, none⟩ = some (.int .i64 g.a) ∧ W.cell? ⟨bb, 1, none⟩ = some (.slice (some ⟨e.g, e.o, none⟩) 256 e.c) := fun W M h => ⟨h.drop.rcells 0 _ rfl, cell_of_blk h.drop.drop.blk 0, cell_of_blk h.drop.drop.blk 1, cell_of_blk h.blk 1⟩
        have HS := Aside0.mk hS
        have K0 := Aside0.mk (hS _ _ hdat.drop.drop.drop.drop.drop.drop)
        have w1 : IntKind.i64.wrap (g.a + 1) = g.a + 1 := by rw [IntWalk.i64_in _ (by omega)]
        have w2 : IntKind.i64.wrap (g.a + 1 + (j : Int)) = g.a + 1 + (j : Int) := by rw [IntWalk.i64_in _ (by omega)]
        have cw := hdat.writeStep (p := p) (lp := lp) (t := t) (c := e.c) (i := g.a + 1 + (j : Int)) hxe.2.2.1 hxe.2.2.2
        have hdl : (dataS (g.a + 1) (ls.take j)).length = j := by rw [dataS_len, List.length_take, HN.out]; omega
        have HDL := Aside0.mk hdl
        clear HC hdat hS hxe hdl HJ hform
        go_wp2_with fail
        go_region_held3 (fun W => W.cell? ⟨wb, 0, none⟩ = some (.pointer (some ⟨lp, 0, none⟩)) ∧ W.cell? ⟨lp, 0, none⟩ = some (.pointer (some ⟨p, 0, none⟩)) ∧ W.cell? ⟨lp, 1, none⟩ = some (.int .i64 g.a) ∧ W.cell? ⟨bb, 1, none⟩ = some (.slice (some ⟨e.g, e.o, none⟩) 256 e.c))
          ((first | exact K0.out | exact K1.out | exact K2.out | exact K3.out))
          ((first
            | (refine step_app rfl (.tmp 38) (.tmp 53) rfl rfl f9 rfl rfl ?_)
            | (go_at_call 57; refine CallAt.out ?_; refine CallAt.mono cw ?_; rintro e' W4 ⟨f1, f2, f3, rfl, h4⟩; have K1 := Aside0.mk (HS.out _ _ h4.drop.drop.drop.drop.drop.drop); have h5 := h4.alloc (.cells #[.func (.func 71) #[] #[.pointer (some ⟨f1, 0, none⟩), .pointer (some ⟨f2, 0, none⟩), .pointer (some ⟨f3, 0, none⟩)]] 95); have K2 := Aside0.mk (HS.out _ _ h5.drop.drop.drop.drop.drop.drop.drop); obtain ⟨g9, c9, W9, r9, h9⟩ := (St.swap (St.rot3 (St.stepRow (n := 1) rfl (by decide) h5))).appS rfl (by decide) (by rw [HDL.out]; omega); have K3 := Aside0.mk (HS.out _ _ h9.drop.drop.drop.drop.drop); have f9 := AppRun.mk r9; have h9 := Aside0.mk h9; clear r9 h4 h5)))
        have HF : Aside0 (St w0 W9 (SW p lp t g (wb + 1) wb lb cl n (.slice (some ⟨g9, 0, none⟩) ((dataS (g.a + 1) (ls.take j)).length + 1) c9) (.slice (some ⟨gh, 0, none⟩) (j + 1) ch) (.slice (some ⟨gd, 0, none⟩) ((j + 1) * 256) cd) (j + 1) es ls L)) := ⟨by
          have etk : ls.take (j + 1) = ls.take j ++ [x] := by rw [List.take_succ_eq_append_getElem hjl, HX.out]
          have e1 : dataS (g.a + 1) (ls.take (j + 1)) = dataS (g.a + 1) (ls.take j) ++ [.wr (g.a + 1 + (j : Int)) x.2] := by
            rw [etk, dataS_app, List.length_take, HN.out, Nat.min_eq_left (by omega)]
          unfold SW
          rw [e1]
          have h := (St.rot6 h9.out).drop
          exact h.perm (List.Perm.cons _ ((List.perm_middle (l₁ := [_, _, _, _, _, _])).symm.trans (List.Perm.cons _ (List.Perm.swap _ _ _))))⟩
        clear h9 K0 K1 K2 K3 HS cw
        go_wp2
        go_roundw
        case rel => exact ⟨j + 1, _, _, by go_num, hjn, HF, fun _ => ⟨⟨g9, c9, by rw [HDL.out]⟩, ⟨gh, ch, rfl⟩, ⟨gd, cd, rfl⟩⟩⟩
        case measure => simp only [RowKit.intOf]; omega
    · have hjn2 : j = n := by omega
      subst hjn2
      have t1 : decide ((j : Int) < (j : Int)) = false := decide_eq_false (by omega)
      obtain ⟨⟨g6, c6, rfl⟩, ⟨gh, ch, rfl⟩, gd, cd, rfl⟩ := hform hn1
      have e0 : ls.take j = ls := List.take_of_length_le (by rw [HN.out]; omega)
      have hsec : ∀ x ∈ ls, x.2.length = 256 ∧ Bytes x.2 := fun x hx => by
        obtain ⟨i, hi, rfl⟩ := List.mem_iff_getElem.1 hx
        have hie : i < es.length := by rw [HSZ.out]; exact hi
        have := (HJ.out.drop.drop.drop.drop.drop.drop.drop.dat (i := i) (List.getElem?_eq_getElem hie) (List.getElem?_eq_getElem hi)).1
        exact ⟨this.2.2.1, this.2.2.2⟩
      have hmem : ∀ y ∈ homesOf ls, 0 ≤ y ∧ y < 65536 := fun y hy => by
        obtain ⟨x, hx, rfl⟩ := List.mem_map.1 hy
        exact HH.out x hx
      have hby : Bytes (dataOf ls) := fun y hy => by
        obtain ⟨x, hx, hy⟩ := List.mem_flatMap.1 hy
        exact (hsec x hx).2 y hy
      have hld : (dataOf ls).length = j * 256 := by rw [flat_secs ls fun x hx => (hsec x hx).1, HN.out]
      have hlh : (homesOf ls).length = j := by rw [homesOf, List.length_map, HN.out]
      have HA := HJ.out
      unfold SW at HA
      rw [e0] at HA
      -- S, B, R3, R5, W, P, R48, D
      have hcd : j * 256 ≤ cd := by
        have h := (St.rot4 HA).row
        rw [← hld] at h
        have := (own_rd h).2.1
        omega
      have H1 := (St.rot8 (St.rot8 HA)).drop.drop
      -- R48, D dropped: S, B, R3, R5, W, P
      have H2 := (St.rot4 H1).rowCells
      have H3 := (St.rot4 H2).rowCells
      have H4 := (St.rot4 H3).blkCells
      -- X, CH, CD, S, W, P
      have k1 : wr.cell? ⟨wb + 1, 0, none⟩ = some (.int .i64 t) := H4.rcells 0 _ rfl
      have k2 : wr.cell? ⟨wb + 1, 1, none⟩ = some (.slice (some ⟨gh, 0, none⟩) j ch) := H4.rcells 1 _ rfl
      have k3 : wr.cell? ⟨wb + 1, 2, none⟩ = some (.slice (some ⟨gd, 0, none⟩) (j * 256) cd) := H4.rcells 2 _ rfl
      have hrI : RdI wr (some ⟨gh, 0, none⟩) (homesOf ls) := by
        obtain ⟨T, S, h, _⟩ := H4.drop.fst
        exact h.1.rdI (by rw [hlh]; omega)
      have hrB : Rd wr (some ⟨gd, 0, none⟩) (dataOf ls) := by
        obtain ⟨T, S, h, _⟩ := H4.drop.drop.fst
        exact h.1.rd (by rw [hld]; omega)
      have hd := headed_calls (ca := ch) (cb := cd) (HT.out.below H4.below) hrI hlh hrB hld hby hn2 hmem tb0 tb1
      have HD := Aside0.mk hd
      have H4 := Aside0.mk H4
      have HSEC := Aside0.mk hsec
      have HL121 : Aside0 ((homesOf ls).length ≤ 121) := ⟨by rw [hlh]; omega⟩
      clear HA H1 H2 H3 hrI hrB hd hsec hmem hby hld hlh hform HJ e0
      go_wp2_with fail
      refine HD.out.mono ?_
      rintro e W1 ⟨rfl, hb1⟩
      have hs := (H4.out.go hb1).hdrStored (turn := t) (homes := homesOf ls) (data := dataOf ls) HL121.out
      obtain ⟨cs, hcs⟩ : ∃ cs, cs = bytes (lhdr t (homesOf ls) (dataOf ls)) := ⟨_, rfl⟩
      rw [← hcs] at hs ⊢
      obtain ⟨s1, s2, s3, s4⟩ := hs
      have S1 := Aside0.mk s1
      have S2 := Aside0.mk s2
      have S3 := Aside0.mk s3
      have S4 := Aside0.mk s4
      have HC := Aside0.mk hcs
      clear HD H4 hb1 hcs s1 s2 s3 s4 k1 k2 k3
      go_upto_region 10 with (refine wpList_store_mid rfl 93 (.tmp 9) (.tmp 62) rfl W1.heap.size 0 cs.toArray rfl rfl S1.out S2.out S3.out ?_)
      obtain ⟨hb, hhb⟩ : ∃ hb, hb = W1.heap.size := ⟨_, rfl⟩
      rw [← hhb] at S4 ⊢
      generalize (W1.alloc (.cells Tryd.zeroCells93 93)).setCells hb 0 cs = W3 at *
      clear S1 S2 S3 hhb
      have hS : ∀ W M, St w0 W (rCells wb 0 [.pointer (some ⟨lp, 0, none⟩)] :: rBlk lp (walObj p g) :: M) → W.cell? ⟨wb, 0, none⟩ = some (.pointer (some ⟨lp, 0, none⟩)) ∧ W.cell? ⟨lp, 0, none⟩ = some (.pointer (some ⟨p, 0, none⟩)) ∧ W.cell? ⟨lp, 1, none⟩ = some (.int .i64 g.a) := fun W M h => ⟨h.rcells 0 _ rfl, cell_of_blk h.drop.blk 0, cell_of_blk h.drop.blk 1⟩
      have HS := Aside0.mk hS
      have hB0 := St.swap ((S4.out.drew).noStep.syncStep (p := p) (lp := lp) (t := t))
      have K0 := Aside0.mk (hS _ _ hB0.drop.drop.drop.drop.drop.drop)
      have hC := HC.out
      have cw := (show St w0 W3.drew (rCells hb 0 (bytes (lhdr t (homesOf ls) (dataOf ls))) :: _) from hC ▸ hB0).writeStepOn (c := 256) (i := g.a) (hdr_len HL121.out) (hdr_ok HL121.out).2
      have hdl : (dataS (g.a + 1) ls).length = j := by rw [dataS_len, HN.out]
      have HDL := Aside0.mk hdl
      clear hS hB0 hC hdl
      simp only [Act.put]
      go_cut [6] (fun v6 W => ∃ g9 c9 : Nat, v6 = .slice (some ⟨g9, 0, none⟩) (j + 3) c9 ∧ Aside0 (St w0 W (rSteps p lp t (.slice (some ⟨g9, 0, none⟩) (j + 3) c9) (dataS (g.a + 1) ls ++ [.sync, .wr g.a (lhdr t (homesOf ls) (dataOf ls)), .sync]) :: rCells (wb + 1) 0 [.int .i64 t, .slice (some ⟨gh, 0, none⟩) j ch, .slice (some ⟨gd, 0, none⟩) (j * 256) cd] :: rCells gh 0 (intsV (homesOf ls)) :: rCells gd 0 (bytes (dataOf ls)) :: rCells wb 0 [.pointer (some ⟨lp, 0, none⟩)] :: rBlk lp (walObj p g) :: L)))
      case first =>
       as_aux_lemma =>
        clear HT HN HH HSZ HHT HWB H2 tb0 tb1 u3 HSEC S4 HC
        go_region_held3 (fun W => W.cell? ⟨wb, 0, none⟩ = some (.pointer (some ⟨lp, 0, none⟩)) ∧ W.cell? ⟨lp, 0, none⟩ = some (.pointer (some ⟨p, 0, none⟩)) ∧ W.cell? ⟨lp, 1, none⟩ = some (.int .i64 g.a))
         ((first | exact K0.out | exact K1.out | exact K2.out | exact K3.out))
        ((first
          | (refine step_app rfl (.tmp 63) (.tmp 84) rfl rfl f9 rfl rfl ?_)
          | (go_at_call 57; refine CallAt.out ?_; refine CallAt.mono cw ?_; rintro e' W4 ⟨f1, f2, f3, rfl, h4⟩; have K1 := Aside0.mk (HS.out _ _ h4.drop.drop.drop.drop.drop); have h5 := h4.syncStep.alloc (.cells #[.func (.func 42) #[.pointer (some ⟨p, 0, none⟩)] #[], .func (.func 71) #[] #[.pointer (some ⟨f1, 0, none⟩), .pointer (some ⟨f2, 0, none⟩), .pointer (some ⟨f3, 0, none⟩)], .func (.func 42) #[.pointer (some ⟨p, 0, none⟩)] #[]] 95); have K2 := Aside0.mk (HS.out _ _ h5.drop.drop.drop.drop.drop.drop); obtain ⟨g9, c9, W9, r9, h9⟩ := (St.swap (St.rot5 (St.stepRow (n := 3) rfl (by decide) h5))).appS rfl (by decide) (by rw [HDL.out]; omega); have K3 := Aside0.mk (HS.out _ _ h9.drop.drop.drop.drop); rw [HDL.out] at r9 h9; have f9 := AppRun.mk r9; have h9 := Aside0.mk h9; clear r9 h4 h5)))
        all_goals (
          go_wp2
          go_meet
          exact ⟨g9, c9, rfl, h9⟩)
      case rest =>
        obtain ⟨g9, c9, rfl, h9⟩ := hcut
        clear S4 HC K0 cw
        -- S, X, CH, CD, W, P
        have hE : ∀ {g o : Nat} {l : List Value} {w : World} {T S : Foot}, (rCells g o l).has w T S → ∀ i, ¬ S i := fun h => h.2
        have a1 := (St.rot6 ((St.swap h9.out).dupE hE)).dupE hE
        have a2 := (St.swap (St.rot3 (St.rot4 (a1.noStep (p := p) (lp := lp) (t := t))))).turnStep
        have a3 := a2.alloc (.cells #[.func (.func 61) #[] #[.pointer (some ⟨wb + 1, 0, none⟩), .pointer (some ⟨wb, 0, none⟩)]] 95)
        have a4 := St.swap (St.rot4 (St.stepRow (n := 1) rfl (by decide) a3))
        have A4 := Aside0.mk a4
        have hl3 : (dataS (g.a + 1) ls ++ [Stp.sync, .wr g.a (lhdr t (homesOf ls) (dataOf ls)), .sync]).length = j + 3 := by rw [List.length_append, HDL.out]; rfl
        have HL3 := Aside0.mk hl3
        clear a1 a2 a3 a4 hE hl3 h9
        go_upto_region 12 with (at_builtin; refine wpl_appS rfl (.tmp 86) (.tmp 88) rfl rfl _ _ [.turn] wc.heap.size 1 1 rfl rfl rfl (by decide) (by rw [HL3.out]; omega) A4.out ?_; intro w8 g8 c8 h8; have h8 := Aside0.mk h8)
        have e8 : (dataS (g.a + 1) ls).length + 3 + 1 = j + 3 + 1 := by rw [HDL.out]
        rw [e8]
        have hh8 := h8.out
        rw [HL3.out] at hh8
        have hS : ∀ W M, St w0 W (rCells wb 0 [.pointer (some ⟨lp, 0, none⟩)] :: rCells (wb + 1) 0 [.int .i64 t, .slice (some ⟨gh, 0, none⟩) j ch, .slice (some ⟨gd, 0, none⟩) (j * 256) cd] :: rBlk lp (walObj p g) :: M) → W.cell? ⟨wb, 0, none⟩ = some (.pointer (some ⟨lp, 0, none⟩)) ∧ W.cell? ⟨lp, 0, none⟩ = some (.pointer (some ⟨p, 0, none⟩)) ∧ W.cell? ⟨lp, 1, none⟩ = some (.int .i64 g.a) ∧
            W.cell? ⟨wb + 1, 0, none⟩ = some (.int .i64 t) ∧ W.cell? ⟨wb + 1, 1, none⟩ = some (.slice (some ⟨gh, 0, none⟩) j ch) ∧ W.cell? ⟨wb + 1, 2, none⟩ = some (.slice (some ⟨gd, 0, none⟩) (j * 256) cd) := fun W M h => ⟨h.rcells 0 _ rfl, cell_of_blk h.drop.drop.blk 0, cell_of_blk h.drop.drop.blk 1, h.drop.rcells 0 _ rfl, h.drop.rcells 1 _ rfl, h.drop.rcells 2 _ rfl⟩
        have HS2 := Aside0.mk hS
        -- S'', W, X, CH, CD, P -> CD, CH, S'', W, X, P
        have b1 := (St.swap (St.rot5 (St.rot5 hh8))).drew
        have K0 := Aside0.mk (hS _ _ b1.drop.drop.drop)
        have ch1 := CallAt.mk (b1.home (p := p) (lp := lp) (t := t) (a := g.a) (ch := ch) (cd := cd) HT.out tb0 tb1 HN.out hn1 hn2 HSEC.out hcd)
        have hl4 : ((dataS (g.a + 1) ls ++ [Stp.sync, .wr g.a (lhdr t (homesOf ls) (dataOf ls)), .sync]) ++ [Stp.turn]).length = j + 3 + 1 := by rw [List.length_append, HL3.out]; rfl
        have hlh : (homeS g.a t ls).length = j + 3 := by rw [homeS, List.length_append, List.length_map, HN.out]; rfl
        have hfin : ((dataS (g.a + 1) ls ++ [Stp.sync, .wr g.a (lhdr t (homesOf ls) (dataOf ls)), .sync]) ++ [Stp.turn]) ++ homeS g.a t ls = stepsS g.a t ls := by rw [stepsS]; simp
        have HL4 := Aside0.mk hl4
        have HLH := Aside0.mk hlh
        have HFIN := Aside0.mk hfin
        have hlm : (stepsS g.a t ls).length = j + 3 + 1 + (j + 3) := by rw [← hfin, List.length_append, hl4, hlh]
        have HLM := Aside0.mk hlm
        clear e8 hh8 hS b1 hl4 hlh hfin hlm h8 A4 HS
        clear HH HSZ HHT HWB H2 HT HN HSEC u3
        go_region_held3 (fun W => W.cell? ⟨wb, 0, none⟩ = some (.pointer (some ⟨lp, 0, none⟩)) ∧ W.cell? ⟨lp, 0, none⟩ = some (.pointer (some ⟨p, 0, none⟩)) ∧ W.cell? ⟨lp, 1, none⟩ = some (.int .i64 g.a) ∧
            W.cell? ⟨wb + 1, 0, none⟩ = some (.int .i64 t) ∧ W.cell? ⟨wb + 1, 1, none⟩ = some (.slice (some ⟨gh, 0, none⟩) j ch) ∧ W.cell? ⟨wb + 1, 2, none⟩ = some (.slice (some ⟨gd, 0, none⟩) (j * 256) cd))
          ((first | exact K0.out | exact K1.out | exact K2.out))
          ((first
            | (refine step_app rfl (.tmp 90) (.tmp 100) rfl rfl f9 rfl rfl ?_)
            | (go_at_call 30; refine CallAt.out ?_; refine CallAt.mono ch1 ?_; rintro e' W4 ⟨gg, gc, rfl, h4⟩; have K1 := Aside0.mk (HS2.out _ _ h4.drop.drop.drop.drop); obtain ⟨gf, cf, W9, r9, h9⟩ := (St.swap (St.rot4 h4)).appS HLH.out (by omega) (by rw [HL4.out]; omega); have K2 := Aside0.mk (HS2.out _ _ h9.drop.drop.drop); rw [HL4.out, HFIN.out] at h9; rw [HL4.out] at r9; have f9 := AppRun.mk r9; have h9 := Aside0.mk h9; clear r9 h4)))
        all_goals (
          go_wp2
          go_ret
          exact ⟨gf, cf, j + 3 + 1 + (j + 3), by omega, rfl, HLM.out, (St.swap (St.swap (St.swap (St.swap h9.out).drop).drop).drop).drop⟩)
end
end Go.Proofs.YtfhdiddlloiglaaDoor
end
