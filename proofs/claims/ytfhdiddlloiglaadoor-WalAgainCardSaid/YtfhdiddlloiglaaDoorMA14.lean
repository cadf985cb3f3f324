/- Texts of this claim, one behind the other: Fe, G, G2, G3, G4. -/
import Derived.Test.YtfhdiddlloiglaaDoorMA13
import Derived.Lib.BufferWrite
import Derived.Lib.LazyBuf
import Derived.Deep.MidRow
import Derived.Test.YtfhdiddlloiglaaDoorMA2
import Derived.Maps.AppendAt
section
/- The log's header. -/
namespace Go.Proofs.YtfhdiddlloiglaaDoor
open Go.RowKit Go.Proofs.YtfhdiddlloiglaaDoorW.PrintWords
attribute [local go_sem ↓] Go.wp_at_zero Go.wp_at_succ
set_option linter.unusedVariables false
set_option linter.unusedSimpArgs false
set_option maxRecDepth 100000

theorem Half.below {w w' : World} (h : Half w) (hb : Below w.heap.size w w') : Half w' := fun j hj => (hb.cell (World.block_lt_of_cell? w _ (h j hj))).trans (h j hj)
section
variable {w0 w : World} {L : List Res}
/-- copy(b, "SLOG"). -/
theorem St.copySlog {g c : Nat} (H : St w0 w (rRow 5 1 (.slice (some ⟨g, 0, none⟩) 256 c) 256 (bytes (List.replicate 256 0)) :: L)) :
    ∃ w', (∀ ty, (Builtin.copy_ #[44, 9] ty #[.slice (some ⟨g, 0, none⟩) 256 c, .string { data := #[83, 76, 79, 71] }]).run Tryd.prog w = .ok (goInt 4) w') ∧ St w0 w' (rRow 5 1 (.slice (some ⟨g, 0, none⟩) 256 c) 256 (bytes (slog ++ List.replicate 252 0)) :: L) := by
  have h := H.row
  obtain ⟨h1, h2⟩ := h
  rcases h2 with ⟨e, _⟩ | ⟨g', cap', cur, e, hb, hg, h3, h4, h5, h6⟩
  · cases e
  · injection e with e1 e2 e3
    injection e1 with e1
    injection e1 with e1
    subst e1 e3
    rw [Nat.mul_one] at h6
    have h56 : 256 ≤ cur.size := by omega
    have hrun := fun ty => Lib.run_copy_row_string (P := Tryd.prog) w 44 9 ty 5 g 0 256 c { data := #[83, 76, 79, 71] } cur 5 Tryd.underlying44 info5map hg (by decide) (by show 0 + 4 ≤ _; omega)
    refine ⟨_, hrun, ?_⟩
    have hx : (cur.toList.take 0 ++ Lib.byteCells (ByteArray.mk #[83, 76, 79, 71]).data.toList ++ cur.toList.drop (0 + (ByteArray.mk #[83, 76, 79, 71]).size)).take 256 = bytes (slog ++ List.replicate 252 0) := by
      show (bytes slog ++ cur.toList.drop 4).take 256 = _
      rw [List.take_append, List.take_of_length_le (by decide)]
      have e1 : (cur.toList.drop 4).take (256 - (bytes slog).length) = bytes (List.replicate 252 0) := by
        show (cur.toList.drop 4).take 252 = _
        have : (cur.toList.take 256).drop 4 = bytes (List.replicate 252 0) := by
          rw [h6]; rfl
        rw [List.drop_take] at this
        exact this
      rw [e1, bytes, bytes, bytes, List.map_append]
    refine H.setRow ⟨by simp [slog], .inr ⟨g, _, _, rfl, hb, setRow_heap w g _ _ 5 _ hg, h3, h4, ?_, ?_⟩⟩ ⟨rfl, rfl, rfl, by simp [World.setRow], fun k hk hne => setRow_other w g k _ (fun e => hne (by rw [e]; rfl))⟩ (.inl rfl)
    · have e4 : (ByteArray.mk #[83, 76, 79, 71]).size = 4 := rfl
      have e5 : (Lib.byteCells (ByteArray.mk #[83, 76, 79, 71]).data.toList).length = 4 := rfl
      simp only [List.size_toArray, List.length_append, List.length_take, List.length_drop, Array.length_toList, e4, e5]
      omega
    · rw [Nat.mul_one]; exact hx
end
section
variable {ops : Array Oper} {o : Oper} {a : Act} {W w1 : World} {Q : Exit → Act → World → Prop} {rest : List Oper} {dv xv v : Value} {t1 t2 : TypeId}
theorem wpl_copy (hg : o.guard = none) (d x : Operand) (hop : o.op = Op.call { callee := Callee.builtin Builtin.copy, args := #[d, x], argTypes := #[t1, t2] }) (hd : a.eval d = dv) (hx : a.eval x = xv)
    (hrun : ∀ ty, (Builtin.copy_ #[t1, t2] ty #[dv, xv]).run Tryd.prog W = .ok v w1) (hK : wpList Tryd.prog ops Q rest (a.put o.dst v) w1) : wpList Tryd.prog ops Q (o :: rest) a W := by
  refine wpList_plain hg fun K hK' => ?_
  unfold Oper.wp execOp
  simp only [hop, resolve, invoke, builtin, Sem.run_bind, Sem.run_pure, Result.andThen_ok, List.map_toArray, List.map_cons, List.map_nil, hd, hx, hrun o.type]
  exact hK' _ _ hK
end
theorem St.putL {w0 w : World} {L : List Res} {A : Option Addr} {n c i k : Nat} {b : List Int} {v ii kk : Int} (hii : ii = (i : Int)) (hkk : kk = (k : Int)) (H : St w0 w L) (hb : Rd w A b) (hn : b.length = n) (hA : A = none → c = 0) (hk : 1 ≤ k ∧ k ≤ 4) (hi : i + k ≤ n) (hn2 : n ≤ 1048576) (hv0 : 0 ≤ v) (hv : v < 256 ^ k) :
    Calls Tryd.prog 68 #[.slice A n c, .int .i64 ii, .int .i64 kk, .int .i64 v] w fun e w' => ∃ g c', e = .returned (.tuple #[.slice (some ⟨g, 0, none⟩) n c', .int .i64 0]) ∧ St w0 w' (rRow 5 1 (.slice (some ⟨g, 0, none⟩) n c') n (bytes (putAt b i k v)) :: L) := by
  subst hii hkk
  exact H.put hb hn hA hk hi hn2 hv0 hv
theorem hdrPre_len {turn : Int} {n m : Nat} {l : List Int} : (hdrPre turn n l m).length = 10 + 2 * l.length + m := by
  simp only [hdrPre, List.length_append, le_len, flat2_len, List.length_replicate, slog, List.length_cons, List.length_nil]
theorem results_cell_mid {P : Program} {fn : Func} {p : Tmp} {ty : TypeId} (h : fn.results = #[.cell p ty]) (tmps : Array Value) (w : World) (b o : Nat) (cs : List Value) (d : TypeDesc)
    (hp : tmps.getD p undef = .pointer (some ⟨b, o, none⟩)) (hc : w.rangeAt b o cs) (hu : P.underlying ty = some d) (hd : d.isRow = true) (hi : (P.info? ty).map (·.size) = some cs.length) :
    (results fn tmps).run P w = .ok (.agg cs.toArray) w := by
  have hp' : tmps[p]?.getD undef = .pointer (some ⟨b, o, none⟩) := by simpa using hp
  simp [results, h, hp', asAddr, run_loadVar_mid w b o ty cs d hc hu hd hi]
theorem zero93 : Tryd.zeroCells93.size = 256 := by kernel_rfl
theorem info93 : (Tryd.prog.info? 93).map (·.size) = some 256 := by kernel_rfl
theorem und93_ : Tryd.prog.underlying 93 = some (.array 256 5) := Tryd.underlying93
theorem run_arrayAt (a : Addr) (c : Nat) (W : World) : (Instr.arrayAt 93 (.slice (some a) 256 c)).run Tryd.prog W = .ok (.pointer (some a)) W := by
  unfold Instr.arrayAt
  simp [run_underlying und93_, Result.andThen]
theorem und93 : Tryd.prog.underlying 93 = some (.array 256 5) := Tryd.underlying93
set_option maxHeartbeats 600000 in
theorem headed_calls {w : World} {A B : Option Addr} {homes data : List Int} {turn : Int} {n m ca cb : Nat} (hT : Half w) (hA : RdI w A homes) (hn : homes.length = n) (hB : Rd w B data) (hm : data.length = m) (hby : Bytes data)
    (hl : n ≤ 100) (hh : ∀ x ∈ homes, 0 ≤ x ∧ x < 65536) (ht0 : 0 ≤ turn) (ht1 : turn < 4294967296) :
    Calls Tryd.prog 56 #[.int .i64 turn, .slice A n ca, .slice B m cb] w fun e w' => e = .returned (.agg (bytes (lhdr turn homes data)).toArray) ∧ Below w.heap.size w w' := by
  have HN := Aside0.mk hn
  have HM := Aside0.mk hm
  have HHT := Aside0.mk hT
  have HA := Aside0.mk hA
  have HB := Aside0.mk hB
  have HY := Aside0.mk hby
  have HH := Aside0.mk hh
  have mk0 : ∀ W, (Instr.makeSlice 44 (.int .i64 256) (.int .i64 256)).run Tryd.prog W = .ok (.slice (some ⟨W.heap.size, 0, none⟩) 256 256) (W.alloc (zeros 256)) := fun W => by
    have := make_bytes W 256 (by omega) (by omega)
    exact this
  have hH0 : St w ((w.alloc (.cells Tryd.zeroCells93 93)).alloc (zeros 256)) (rRow 5 1 (.slice (some ⟨w.heap.size + 1, 0, none⟩) 256 256) 256 (bytes (List.replicate 256 0)) :: rBlk w.heap.size (.cells Tryd.zeroCells93 93) :: []) := by
    have h1 := (St.start w).alloc (.cells Tryd.zeroCells93 93)
    have hz := zeros_row (w := w.alloc (.cells Tryd.zeroCells93 93)) 256 (by simp [maxLen])
    have e : (w.alloc (.cells Tryd.zeroCells93 93)).heap.size = w.heap.size + 1 := by simp
    have h2 := h1.gainRow ((Below.refl _ _).alloc (Nat.le_refl _) (zeros 256)) hz
    rw [e] at h2
    exact h2
  obtain ⟨w2, hcp, H2⟩ := hH0.copySlog
  have H2 := Aside0.mk H2
  clear hn hm hT hA hB hby hh hH0
  go_enter Tryd.func56, Tryd.ntmps56
  go_upto_region 3 with (at_builtin; refine wpl_copy rfl (.tmp 12) (.const (.string { data := #[83, 76, 79, 71] })) rfl rfl rfl hcp ?_)
  clear hcp mk0
  have hp := Aside0.mk (H2.out.putL (n := 256) (i := 4) (k := 4) (c := 256) (v := turn) rfl rfl (H2.out.rdRow (by simp [slog])) (by simp [slog]) (fun h => by cases h) (by omega) (by omega) (by omega) ht0 (by rw [p4_]; exact ht1))
  clear H2
  go_wp2_with fail
  refine hp.out.mono ?_
  rintro e w3 ⟨g3, c3, rfl, H3⟩
  have H3 := (St.swap H3).drop
  have hp2 := Aside0.mk (H3.putL (n := 256) (i := 8) (k := 2) (c := c3) (v := (n : Int)) rfl rfl (H3.rdRow (by rw [putAt_len (by simp [slog])]; simp [slog])) (by rw [putAt_len (by simp [slog])]; simp [slog]) (fun h => by cases h) (by omega) (by omega) (by omega) (by omega) (by rw [p2_]; omega))
  clear hp H3
  go_wp2_with fail
  refine hp2.out.mono ?_
  rintro e w4 ⟨g4, c4, rfl, H4⟩
  rw [hdr_b1] at H4
  have H4 := Aside0.mk ((St.swap H4).drop)
  clear hp2
  go_wp2_with fail
  go_loopw [7, 29] (fun v7 v29 W => ∃ j g c : Nat, v7 = .slice (some ⟨g, 0, none⟩) 256 c ∧ v29 = .int .i64 (j : Int) ∧ j ≤ n ∧ Aside0 (St w W (rRow 5 1 (.slice (some ⟨g, 0, none⟩) 256 c) 256 (bytes (hdrPre turn n (homes.take j) (246 - 2 * j))) :: rBlk w.heap.size (.cells Tryd.zeroCells93 93) :: []))) (fun _ v29 _ => n - (RowKit.intOf v29).toNat)
  case atStart => exact ⟨0, g4, c4, rfl, rfl, Nat.zero_le _, H4⟩
  case round =>
    clear H4
    obtain ⟨j, g, c, rfl, rfl, hj, HJ⟩ := hrel
    have hlj : (homes.take j).length = j := by rw [List.length_take, HN.out]; omega
    have hlen : (hdrPre turn n (homes.take j) (246 - 2 * j)).length = 256 := by rw [hdrPre_len, hlj]; omega
    by_cases hjn : j < n
    · have t1 : decide ((j : Int) < (n : Int)) = true := decide_eq_true (by omega)
      have t1' : (j : Int) < (n : Int) := by omega
      have hjl : j < homes.length := by rw [HN.out]; exact hjn
      have hAb : RdI wr A homes := Kd.C_below HA.out HJ.out.below
      obtain ⟨a, rfl, hc⟩ := hAb.at_ hjl
      obtain ⟨h, hh⟩ : ∃ h, h = homes.getD j 0 := ⟨_, rfl⟩
      have hmem : h ∈ homes := by rw [hh, List.getD_eq_getElem?_getD, List.getElem?_eq_getElem hjl]; exact List.getElem_mem hjl
      have hb := HH.out h hmem
      have hp := HJ.out.putL (n := 256) (i := 10 + 2 * j) (k := 2) (c := c) (v := h) rfl rfl (HJ.out.rdRow hlen) hlen (fun h => by cases h) (by omega) (by omega) (by omega) hb.1 (by rw [p2_]; exact hb.2)
      have e1 : putAt (hdrPre turn n (homes.take j) (246 - 2 * j)) (10 + 2 * j) 2 h = hdrPre turn n (homes.take (j + 1)) (246 - 2 * (j + 1)) := by
        have e2 : 246 - 2 * j = 2 + (246 - 2 * (j + 1)) := by omega
        rw [e2, hdr_bs (by rw [hlj]), List.take_succ_eq_append_getElem hjl, hh, List.getD_eq_getElem?_getD, List.getElem?_eq_getElem hjl]
        rfl
      rw [e1] at hp
      have HP := Aside0.mk hp
      have w1 : IntKind.i64.wrap (2 * (j : Int)) = ((2 * j : Nat) : Int) := by rw [IntWalk.i64_in _ (by omega)]; omega
      have w2 : IntKind.i64.wrap (10 + ((2 * j : Nat) : Int)) = ((10 + 2 * j : Nat) : Int) := by rw [IntWalk.i64_in _ (by omega)]; omega
      rw [← hh] at hc
      clear hh hp e1 hAb hlj hlen HJ hmem hb hjl
      go_wp2_with fail
      refine HP.out.mono ?_
      rintro e W ⟨g', c', rfl, H5⟩
      have H5 := Aside0.mk ((St.swap H5).drop)
      clear HP
      go_wp2
      go_roundw
      case rel => exact ⟨j + 1, g', c', rfl, by go_num, hjn, H5⟩
      case measure => simp only [RowKit.intOf]; omega
    · have hje : j = n := by omega
      subst hje
      have t1 : decide ((j : Int) < (j : Int)) = false := decide_eq_false (by omega)
      have hn121 : homes.length ≤ 121 := by rw [HN.out]; omega
      have e0 : homes.take j = homes := List.take_of_length_le (by rw [HN.out]; omega)
      have eb : hdrPre turn j (homes.take j) (246 - 2 * j) = hdr0 turn homes ++ List.replicate 4 0 := by
        have := hdr_be (turn := turn) hn121
        rw [HN.out] at this
        rw [e0]; exact this
      have HK : St w wr (rRow 5 1 (.slice (some ⟨g, 0, none⟩) 256 c) 256 (bytes (hdr0 turn homes ++ List.replicate 4 0)) :: rBlk w.heap.size (.cells Tryd.zeroCells93 93) :: []) := eb ▸ HJ.out
      have h0l := hdr0_len (turn := turn) hn121
      have hl256 : (hdr0 turn homes ++ List.replicate 4 0).length = 256 := by rw [List.length_append, h0l]; rfl
      have hr := HK.row
      rw [← hl256] at hr
      have hcc : 256 ≤ c := by have := (own_rd hr).2.1; omega
      have hpart := own_part hr 0 252 (by omega)
      have e2 : ((hdr0 turn homes ++ List.replicate 4 0).drop 0).take 252 = hdr0 turn homes := by rw [List.drop_zero, List.take_left' h0l]
      rw [e2] at hpart
      have hHalf := HHT.out.below HK.below
      have hs := sum_calls hHalf (c := c) hpart h0l hdr0_byte
      have hBb : Rd wr B data := Kd.C_below HB.out HK.below
      have hm2 := more_calls hHalf (crcMore 0 (hdr0 turn homes)) (c := cb) hBb HM.out HY.out
      rw [crcMore_app] at hm2
      obtain ⟨q, hq⟩ : ∃ q, q = crcMore 0 (hdr0 turn homes ++ data) := ⟨_, rfl⟩
      have hqi : crcI (hdr0 turn homes ++ data) = (q.toNat : Int) := by rw [hq]; rfl
      rw [← hq] at hm2
      have hql : (q.toNat : Int) < 4294967296 := by have := q.isLt; omega
      have hp := HK.putL (n := 256) (i := 252) (k := 4) (c := c) (v := (q.toNat : Int)) rfl rfl (HK.rdRow hl256) hl256 (fun h => by cases h) (by omega) (by omega) (by omega) (by omega) (by rw [p4_]; exact hql)
      have e3 : putAt (hdr0 turn homes ++ List.replicate 4 0) 252 4 (q.toNat : Int) = lhdr turn homes data := by rw [← hqi]; exact hdr_sum hn121
      rw [e3] at hp
      have hw6 : IntKind.i64.wrap (q.toNat : Int) = (q.toNat : Int) := by rw [IntWalk.i64_in _ (by omega)]
      have HP := Aside0.mk hp
      have HS := Aside0.mk hs
      have HM2 := Aside0.mk hm2
      have HL : Aside0 ((lhdr turn homes data).length = 256) := ⟨hdr_len hn121⟩
      have k1 : ¬ c = 252 := by omega
      have k2 : (252 : Int) ≤ (c : Int) := by omega
      clear hp hs hm2 hq hqi e3 HK HJ eb hr hpart e2 hHalf hBb e0 h0l hl256 hn121
      go_wp2_with fail
      refine HS.out.mono ?_
      rintro e W ⟨rfl, rfl⟩
      clear HS
      go_wp2_with fail
      refine HM2.out.mono ?_
      rintro e W ⟨rfl, rfl⟩
      clear HM2
      go_wp2_with fail
      refine HP.out.mono ?_
      rintro e W5 ⟨g5, c5, rfl, H5⟩
      have H5 := (St.swap H5).drop
      have hcs : W5.rangeAt g5 0 (bytes (lhdr turn homes data)) := fun j v hv => by
        have := H5.row.cells (g := g5) rfl j v hv
        rwa [addr_add] at this
      have hblk := (St.swap H5).blk
      have hth : W5.there w.heap.size 0 (bytes (lhdr turn homes data)).toArray.size := fun j hj => by
        have hj' : j < 256 := by simpa [HL.out] using hj
        refine ⟨?_, free_of_blk hblk _⟩
        rw [cell_of_blk hblk, Nat.zero_add]
        rw [Array.getElem?_eq_getElem (by rw [zero93]; exact hj')]
        rfl
      have h1c : (bytes (lhdr turn homes data)).toArray.all (·.oneCell') = true := all_oneCell_toArray fun v hv => by
        obtain ⟨z, _, rfl⟩ := List.mem_map.1 hv; rfl
      have hi : (Tryd.prog.info? 93).map (·.size) = some (bytes (lhdr turn homes data)).length := by rw [info93, List.length_map, HL.out]
      have hi2 : (Tryd.prog.info? 93).map (·.size) = some (bytes (lhdr turn homes data)).toArray.size := by rw [hi]; simp
      have hsame := World.rangeAt_setCells_same W5 w.heap.size 0 (bytes (lhdr turn homes data)) (by simpa using hth)
      have hbel := Go.below_setCells (b := w.heap.size) (Nat.le_refl _) (bytes (lhdr turn homes data)) 0 W5 H5.below
      have HCS := Aside0.mk hcs
      have HTH := Aside0.mk hth
      have H1C := Aside0.mk h1c
      have HI := Aside0.mk hi
      have HI2 := Aside0.mk hi2
      have HSM := Aside0.mk hsame
      have HBE := Aside0.mk hbel
      clear HP H5 hcs hblk hth h1c hi hi2 hsame hbel
      obtain ⟨cs, hcs⟩ : ∃ cs, cs = bytes (lhdr turn homes data) := ⟨_, rfl⟩
      rw [← hcs] at HCS HTH H1C HI HI2 HSM HBE
      have HC := Aside0.mk hcs
      clear hcs
      have har := fun W => run_arrayAt ⟨g5, 0, none⟩ c5 W
      go_wp2_with (first
        | (refine wpList_load_mid rfl 93 (.tmp 57) rfl g5 0 rfl cs (.array 256 5) HCS.out und93 rfl HI.out ?_)
        | (refine wpList_store_mid rfl 93 (.tmp 6) (.tmp 58) rfl w.heap.size 0 cs.toArray rfl rfl HTH.out HI2.out H1C.out ?_))
      refine bodyPost_ret (results_cell_mid (p := 6) rfl _ _ w.heap.size 0 cs (.array 256 5) rfl HSM.out und93 rfl HI.out) rfl ?_
      exact ⟨by rw [← HC.out], HBE.out⟩
end Go.Proofs.YtfhdiddlloiglaaDoor
end
section
/- A log's steps in memory; steps are taken. -/
namespace Go.Proofs.YtfhdiddlloiglaaDoor
open Go.RowKit Go.Proofs.YtfhdiddlloiglaaDoorW.PrintWords
attribute [local go_sem ↓] Go.wp_at_zero Go.wp_at_succ
set_option linter.unusedVariables false
set_option linter.unusedSimpArgs false
set_option maxRecDepth 100000

/-- Cells of a block that nobody writes. -/
def CellsT (w : World) (T : Foot) (g o : Nat) (l : List Value) : Prop := T g ∧ ∀ j u, l[j]? = some u → w.cell? ⟨g, o + j, none⟩ = some u
theorem CellsT.kept {w w' : World} {T T' : Foot} {g o : Nat} {l : List Value} (h : CellsT w T g o l) (hk : ∀ i, T i → w'.heap[i]? = w.heap[i]?) (hT : ∀ i, T i → T' i) : CellsT w' T' g o l :=
  ⟨hT g h.1, fun j u hj => by
    have := h.2 j u hj
    unfold World.cell? at this ⊢
    rw [hk g h.1]; exact this⟩
def rCells (g o : Nat) (l : List Value) : Res :=
  ⟨fun w T S => CellsT w T g o l ∧ ∀ i, ¬ S i, fun h i hi => absurd hi (h.2 i), fun h _ hk hT => ⟨h.1.kept (fun i hi => hk i (.inr hi)) hT, h.2⟩⟩
/-- A step's value: p: the disk; lp: the log. -/
def StepV (p lp : Nat) (t : Int) (w : World) (T : Foot) (v : Value) : Stp → Prop
  | .wr i b => b.length = 256 ∧ Bytes b ∧ ∃ b1 b2 b3 g o c, v = .func (.func 71) #[] #[.pointer (some ⟨b1, 0, none⟩), .pointer (some ⟨b2, 0, none⟩), .pointer (some ⟨b3, 0, none⟩)] ∧ CellsT w T b1 0 [.pointer (some ⟨p, 0, none⟩)] ∧ CellsT w T b2 0 [.int .i64 i] ∧
      CellsT w T b3 0 [.slice (some ⟨g, o, none⟩) 256 c] ∧ CellsT w T g o (bytes b)
  | .sync => v = .func (.func 42) #[.pointer (some ⟨p, 0, none⟩)] #[]
  | .turn => ∃ b1 b2, v = .func (.func 61) #[] #[.pointer (some ⟨b1, 0, none⟩), .pointer (some ⟨b2, 0, none⟩)] ∧ CellsT w T b1 0 [.int .i64 t] ∧ CellsT w T b2 0 [.pointer (some ⟨lp, 0, none⟩)]
theorem StepV.kept {p lp : Nat} {t : Int} {w w' : World} {T T' : Foot} {v : Value} {s : Stp} (h : StepV p lp t w T v s) (hk : ∀ i, T i → w'.heap[i]? = w.heap[i]?) (hT : ∀ i, T i → T' i) : StepV p lp t w' T' v s := by
  cases s with
  | wr i b => obtain ⟨h1, h2, b1, b2, b3, g, o, c, rfl, a, b, c, d⟩ := h; exact ⟨h1, h2, b1, b2, b3, g, o, _, rfl, a.kept hk hT, b.kept hk hT, c.kept hk hT, d.kept hk hT⟩
  | sync => exact h
  | turn => obtain ⟨b1, b2, rfl, a, b⟩ := h; exact ⟨b1, b2, rfl, a.kept hk hT, b.kept hk hT⟩
/-- A row of steps of one's own. -/
def rSteps (p lp : Nat) (t : Int) (v : Value) (l : List Stp) : Res :=
  ⟨fun w T S => ∃ vs : List Value, w.ownsRow 0 95 1 v l.length vs ∧ vs.length = l.length ∧ (∀ (i : Nat) (s : Stp) (x : Value), l[i]? = some s → vs[i]? = some x → StepV p lp t w T x s) ∧ ∀ i, S i ↔ v.ownBlock = some i,
   fun h i hi => by obtain ⟨vs, h1, _, _, h4⟩ := h; exact (h1.lt i ((h4 i).1 hi)).2,
   fun {w T S w' T'} h _ hk hT => by
     obtain ⟨vs, h1, h2, h3, h4⟩ := h
     refine ⟨vs, ⟨h1.1, ?_⟩, h2, fun i s x hs hx => (h3 i s x hs hx).kept (fun i hi => hk i (.inr hi)) hT, h4⟩
     rcases h1.2 with hn | ⟨g, cap, cur, rfl, hb, hg, rest⟩
     · exact .inl hn
     · exact .inr ⟨g, cap, cur, rfl, hb, (hk g (.inl ((h4 g).2 rfl))).trans hg, rest⟩⟩
section
variable {w0 w : World} {p lp : Nat} {t : Int} {d : Dsk} {L : List Res}
/-- wal.write: three boxes. -/
theorem write_calls (w : World) (P : Value) (hP : ∃ q, P = .pointer q) (i : Int) (A : Option Addr) (n c : Nat) : Calls Tryd.prog 57 #[P, .int .i64 i, .slice A n c] w fun e w' =>
    e = .returned (.func (.func 71) #[] #[.pointer (some ⟨w.heap.size, 0, none⟩), .pointer (some ⟨w.heap.size + 1, 0, none⟩), .pointer (some ⟨w.heap.size + 2, 0, none⟩)]) ∧ w' = ((w.alloc (.cells #[P] 25)).alloc (.cells #[.int .i64 i] 3)).alloc (.cells #[.slice A n c] 44) := by
  obtain ⟨q, rfl⟩ := hP
  go_enter Tryd.func57, Tryd.ntmps57
  go_wp2
  go_ret
  exact ⟨rfl, rfl⟩
theorem St.also {α : Type} {A : Res} {B : α → Res} (H : St w0 w (A :: L)) (h : ∀ T S, A.has w T S → ∃ x, (B x).has w T fun _ => False) : ∃ x, St w0 w (B x :: A :: L) := by
  obtain ⟨⟨T, S, ⟨S1, S2, h1, h2, h3, h4⟩, hT, hS, h0⟩, hb⟩ := H
  obtain ⟨x, hx⟩ := h T S1 h1
  exact ⟨x, ⟨⟨T, S, ⟨fun _ => False, S, hx, ⟨S1, S2, h1, h2, h3, h4⟩, fun _ h => h.elim, fun i => by simp⟩, hT, hS, h0⟩, hb⟩⟩

theorem St.withT {A : Res} (H : St w0 w (A :: L)) : ∃ T S, A.has w T S ∧ ∀ B : Res, B.has w T (fun _ => False) → St w0 w (B :: A :: L) := by
  obtain ⟨⟨T, S, ⟨S1, S2, h1, h2, h3, h4⟩, hT, hS, h0⟩, hb⟩ := H
  exact ⟨T, S1, h1, fun B hx => ⟨⟨T, S, ⟨fun _ => False, S, hx, ⟨S1, S2, h1, h2, h3, h4⟩, fun _ h => h.elim, fun i => by simp⟩, hT, hS, h0⟩, hb⟩⟩
theorem CellsT.rd {T : Foot} {g o : Nat} {b : List Int} (h : CellsT w T g o (bytes b)) (hl : b.length ≤ 9223372036854775807) : Rd w (some ⟨g, o, none⟩) b := by
  refine ⟨rfl, hl, fun _ => ⟨_, rfl, fun j x hj => ⟨[.int .u8 x], rfl, rfl, fun i u hu => ?_⟩⟩⟩
  have hi : i = 0 := by have := (List.getElem?_eq_some_iff.1 hu).1; simpa using this
  subst hi
  have e : Value.int .u8 x = u := by simpa using hu
  subst e
  have := h.2 j (.int .u8 x) (by rw [bytes, List.getElem?_map, hj]; rfl)
  rw [addr_add]
  simpa [Kd.int, Kd.scalar] using this
theorem St.rcells {g o : Nat} {l : List Value} (H : St w0 w (rCells g o l :: L)) : ∀ j u, l[j]? = some u → w.cell? ⟨g, o + j, none⟩ = some u := by
  obtain ⟨T, S, h, _⟩ := H.fst
  exact h.1.2
set_option maxHeartbeats 600000 in
/-- A write. -/
theorem St.stepWr {i : Int} {b : Sec} {b1 b2 b3 g o c : Nat} (H : St w0 w (rDisk p d :: rCells g o (bytes b) :: L)) (hb : b.length = 256) (hby : Bytes b) (ht : d.taken < maxTaken) (c1 : w.cell? ⟨b1, 0, none⟩ = some (.pointer (some ⟨p, 0, none⟩))) (c2 : w.cell? ⟨b2, 0, none⟩ = some (.int .i64 i)) (c3 : w.cell? ⟨b3, 0, none⟩ = some (.slice (some ⟨g, o, none⟩) 256 c)) :
    Calls Tryd.prog 71 #[.pointer (some ⟨b1, 0, none⟩), .pointer (some ⟨b2, 0, none⟩), .pointer (some ⟨b3, 0, none⟩)] w fun e w' => e = .returned (.int .i64 (d.write i b).1) ∧ St w0 w' (rDisk p (d.write i b).2 :: rCells g o (bytes b) :: L) := by
  have hw := H.write (A := some ⟨g, o, none⟩) (b := b) (fun h => h.1.rd (by rw [hb]; decide)) ht hby i c (fun h => by cases h)
  rw [hb] at hw
  have HW := Aside0.mk hw
  clear H hw
  go_enter Tryd.func71, Tryd.ntmps71
  go_wp2_with fail
  refine HW.out.mono ?_
  rintro e w1 ⟨rfl, H1⟩
  have H1 := Aside0.mk H1
  clear HW
  go_wp2
  go_ret
  exact ⟨rfl, H1.out⟩

/-- The log in memory. -/
def walObj (p : Nat) (g : Lg) : Obj := .cells #[.pointer (some ⟨p, 0, none⟩), .int .i64 g.a, .int .i64 g.c, .int .i64 g.turn, .bool g.off] 27
set_option maxHeartbeats 600000 in
theorem St.stepTurn {g : Lg} {b1 b2 : Nat} (H : St w0 w (rBlk lp (walObj p g) :: L)) (c1 : w.cell? ⟨b1, 0, none⟩ = some (.int .i64 t)) (c2 : w.cell? ⟨b2, 0, none⟩ = some (.pointer (some ⟨lp, 0, none⟩))) :
    Calls Tryd.prog 61 #[.pointer (some ⟨b1, 0, none⟩), .pointer (some ⟨b2, 0, none⟩)] w fun e w' => e = .returned (.int .i64 0) ∧ St w0 w' (rBlk lp (walObj p { g with turn := t }) :: L) := by
  have hb := H.blk
  have c3 : w.cell? ⟨lp, 3, none⟩ = some (.int .i64 g.turn) := cell_of_blk hb 3
  have f3 : w.frozen? ⟨lp, 3, none⟩ = false := free_of_blk hb 3
  have HS : Aside0 (St w0 (w.setCell ⟨lp, 3, none⟩ (.int .i64 t)) (rBlk lp (walObj p { g with turn := t }) :: L)) := ⟨H.setCell 3 (.int .i64 t)⟩
  clear H hb
  go_enter Tryd.func61, Tryd.ntmps61
  go_wp2
  go_ret
  exact ⟨rfl, HS.out⟩
theorem take_taken' (d : Dsk) : d.take.2.taken ≤ d.taken + 1 := by
  unfold Dsk.take
  split
  · exact Nat.le_succ _
  · exact Nat.le_refl _
theorem sync_taken (d : Dsk) : d.sync.2.taken ≤ d.taken + 1 := by
  unfold Dsk.sync
  split
  · exact take_taken' d
  · exact take_taken' d
theorem write_taken (d : Dsk) (i : Int) (b : Sec) : (d.write i b).2.taken ≤ d.taken + 1 := by
  unfold Dsk.write
  split
  · exact Nat.le_succ _
  · split
    · exact Nat.le_succ _
    · split
      · exact take_taken' d
      · exact take_taken' d
set_option maxHeartbeats 1000000 in
theorem St.run {J : Bool → Res} {l : List Stp} {gg n cc : Nat} (H : St w0 w (rSteps p lp t (.slice (some ⟨gg, 0, none⟩) n cc) l :: rDisk p d :: J false :: L)) (hn : l.length = n) (hn2 : n ≤ 1048576) (ht : d.taken + n < maxTaken)
    (hJ : .turn ∈ l → ∀ {W : World} {M : List Res} {b1 b2 : Nat} (tb : Bool), St w0 W (J tb :: M) → W.cell? ⟨b1, 0, none⟩ = some (.int .i64 t) → W.cell? ⟨b2, 0, none⟩ = some (.pointer (some ⟨lp, 0, none⟩)) →
      Calls Tryd.prog 61 #[.pointer (some ⟨b1, 0, none⟩), .pointer (some ⟨b2, 0, none⟩)] W fun e w' => e = .returned (.int .i64 0) ∧ St w0 w' (J true :: M)) :
    Calls Tryd.prog 29 #[.slice (some ⟨gg, 0, none⟩) n cc] w fun e w' => e = .returned (.int .i64 (runD l false d).1) ∧ St w0 w' (rSteps p lp t (.slice (some ⟨gg, 0, none⟩) n cc) l :: rDisk p (runD l false d).2.2 :: J (runD l false d).2.1 :: L) := by
  have HN := Aside0.mk hn
  have HH := Aside0.mk H
  have HT := Aside0.mk ht
  have HJ := Aside0.mk (fun h => @hJ h)
  clear H hn ht hJ
  go_enter Tryd.func29, Tryd.ntmps29
  go_wp2_with fail
  go_loopw [8] (fun v8 W => ∃ (k : Nat) (tb : Bool) (d' : Dsk), v8 = .int .i64 (k : Int) ∧ k ≤ n ∧ Aside0 (runD l false d = runD (l.drop k) tb d') ∧ Aside0 (d'.taken ≤ d.taken + k) ∧ Aside0 (St w0 W (rSteps p lp t (.slice (some ⟨gg, 0, none⟩) n cc) l :: rDisk p d' :: J tb :: L))) (fun v8 _ => n - (RowKit.intOf v8).toNat)
  case atStart => exact ⟨0, false, d, rfl, Nat.zero_le _, ⟨rfl⟩, ⟨Nat.le_refl _⟩, HH⟩
  case round =>
    clear HH
    obtain ⟨k, tb, d', rfl, hk, HR, HTK, HS⟩ := hrel
    by_cases hkn : k < n
    · have t1 : decide ((k : Int) < (n : Int)) = true := decide_eq_true (by omega)
      have t1' : (k : Int) < (n : Int) := by omega
      have hkl : k < l.length := by rw [HN.out]; exact hkn
      obtain ⟨s, hs⟩ : ∃ s, s = l[k] := ⟨_, rfl⟩
      have hdr : l.drop k = s :: l.drop (k + 1) := by rw [hs]; exact List.drop_eq_getElem_cons hkl
      have hmem : s ∈ l := by rw [hs]; exact List.getElem_mem hkl
      obtain ⟨T, S, hT, hdup⟩ := HS.out.withT
      obtain ⟨vs, h1, h2, h3, h4⟩ := id hT
      have hkv : k < vs.length := by omega
      obtain ⟨x, hx⟩ : ∃ x, x = vs[k] := ⟨_, rfl⟩
      have hc := h1.cells (g := gg) rfl k vs[k] (List.getElem?_eq_getElem hkv)
      rw [addr_add, Nat.zero_add, ← hx] at hc
      have hsv := h3 k s x (by rw [List.getElem?_eq_getElem hkl, hs]) (by rw [List.getElem?_eq_getElem hkv, hx])
      have HD := Aside0.mk hdr
      clear h1 h2 h3 h4 hkv hx hs hdr hT
      cases s with
      | sync =>
        obtain rfl := hsv
        have hcall := (St.swap HS.out).sync (by have := HTK.out; have := HT.out; omega)
        obtain ⟨r1, hr1⟩ : ∃ r1, r1 = d'.sync.1 := ⟨_, rfl⟩
        obtain ⟨d1, hd1⟩ : ∃ d1, d1 = d'.sync.2 := ⟨_, rfl⟩
        rw [← hr1, ← hd1] at hcall
        have HRR : Aside0 (runD l false d = if r1 = 0 then runD (l.drop (k + 1)) tb d1 else (r1, tb, d1)) := ⟨by rw [HR.out, HD.out, hr1, hd1]; rfl⟩
        have HTK1 : Aside0 (d1.taken ≤ d.taken + (k + 1)) := ⟨by rw [hd1]; have := HTK.out; have := sync_taken d'; omega⟩
        have HC := Aside0.mk hcall
        clear hcall hr1 hd1 hdup HR HD HTK hmem hkl HS
        go_wp2_with fail
        refine HC.out.mono ?_
        rintro e W1 ⟨rfl, H1⟩
        have H1 := Aside0.mk (St.swap H1)
        clear HC
        by_cases h0 : r1 = 0
        · subst h0
          have HR1 : Aside0 (runD l false d = runD (l.drop (k + 1)) tb d1) := ⟨by rw [HRR.out, if_pos rfl]⟩
          clear HRR
          go_wp2
          go_roundw
          case rel => exact ⟨k + 1, tb, d1, by go_num, hkn, HR1, HTK1, H1⟩
          case measure => simp only [RowKit.intOf]; omega
        · have hq : (r1 == 0) = false := by simpa using h0
          have HR1 : Aside0 (runD l false d = (r1, tb, d1)) := ⟨by rw [HRR.out, if_neg h0]⟩
          clear HRR
          go_wp2
          go_ret
          rw [HR1.out]
          exact ⟨rfl, H1.out⟩
      | turn =>
        obtain ⟨b1, b2, rfl, q1, q2⟩ := hsv
        have c1 := q1.2 0 _ rfl
        have c2 := q2.2 0 _ rfl
        have hcall := HJ.out hmem tb (St.rot3 HS.out) c1 c2
        have HRR : Aside0 (runD l false d = runD (l.drop (k + 1)) true d') := ⟨by rw [HR.out, HD.out]; rfl⟩
        have HTK1 : Aside0 (d'.taken ≤ d.taken + (k + 1)) := ⟨by have := HTK.out; omega⟩
        have HC := Aside0.mk hcall
        clear hcall hdup HR HD HTK hmem hkl HS c1 c2 q1 q2
        go_wp2_with fail
        refine HC.out.mono ?_
        rintro e W1 ⟨rfl, H1⟩
        have H1 := Aside0.mk (St.back3 H1)
        clear HC
        go_wp2
        go_roundw
        case rel => exact ⟨k + 1, true, d', by go_num, hkn, HRR, HTK1, H1⟩
        case measure => simp only [RowKit.intOf]; omega
      | wr i b =>
        obtain ⟨hb, hby, b1, b2, b3, g, o, c, rfl, q1, q2, q3, q4⟩ := hsv
        have c1 := q1.2 0 _ rfl
        have c2 := q2.2 0 _ rfl
        have c3 := q3.2 0 _ rfl
        have H0 := hdup (rCells g o (bytes b)) ⟨q4, fun _ h => h⟩
        have hcall := (St.rot3 H0).stepWr hb hby (by have := HTK.out; have := HT.out; omega) c1 c2 c3
        obtain ⟨r1, hr1⟩ : ∃ r1, r1 = (d'.write i b).1 := ⟨_, rfl⟩
        obtain ⟨d1, hd1⟩ : ∃ d1, d1 = (d'.write i b).2 := ⟨_, rfl⟩
        rw [← hr1, ← hd1] at hcall
        have HRR : Aside0 (runD l false d = if r1 = 0 then runD (l.drop (k + 1)) tb d1 else (r1, tb, d1)) := ⟨by rw [HR.out, HD.out, hr1, hd1]; rfl⟩
        have HTK1 : Aside0 (d1.taken ≤ d.taken + (k + 1)) := ⟨by rw [hd1]; have := HTK.out; have := write_taken d' i b; omega⟩
        have HC := Aside0.mk hcall
        clear hcall hr1 hd1 hdup HR HD HTK hmem hkl HS c1 c2 c3 q1 q2 q3 q4 H0 hb hby
        go_wp2_with fail
        refine HC.out.mono ?_
        rintro e W1 ⟨rfl, H1⟩
        have H1 := Aside0.mk (St.swap (St.swap H1).drop)
        clear HC
        by_cases h0 : r1 = 0
        · subst h0
          have HR1 : Aside0 (runD l false d = runD (l.drop (k + 1)) tb d1) := ⟨by rw [HRR.out, if_pos rfl]⟩
          clear HRR
          go_wp2
          go_roundw
          case rel => exact ⟨k + 1, tb, d1, by go_num, hkn, HR1, HTK1, H1⟩
          case measure => simp only [RowKit.intOf]; omega
        · have hq : (r1 == 0) = false := by simpa using h0
          have HR1 : Aside0 (runD l false d = (r1, tb, d1)) := ⟨by rw [HRR.out, if_neg h0]⟩
          clear HRR
          go_wp2
          go_ret
          rw [HR1.out]
          exact ⟨rfl, H1.out⟩
    · have hke : k = n := by omega
      subst hke
      have t1 : decide ((k : Int) < (k : Int)) = false := decide_eq_false (by omega)
      have hfin : Aside0 (runD l false d = (0, tb, d')) := ⟨by rw [HR.out, List.drop_of_length_le (by rw [HN.out]; omega)]; rfl⟩
      go_wp2
      go_ret
      rw [hfin.out]
      exact ⟨rfl, HS.out⟩
end
end Go.Proofs.YtfhdiddlloiglaaDoor
end
section
/- A log's steps in memory: made, put together. -/
namespace Go.Proofs.YtfhdiddlloiglaaDoor
open Go.RowKit Go.Proofs.YtfhdiddlloiglaaDoorW.PrintWords
attribute [local go_sem ↓] Go.wp_at_zero Go.wp_at_succ
set_option linter.unusedVariables false
set_option linter.unusedSimpArgs false
set_option maxRecDepth 100000

theorem info95_ : (Tryd.prog.info? 95).map (fun i => (i.zero, i.size, i.bytes)) = some (some .nilFunc, 1, 8) := by kernel_rfl
theorem info95 : ∃ i, Tryd.prog.info? 95 = some i ∧ i.zero = some .nilFunc ∧ i.size = 1 ∧ i.bytes = 8 := by
  have h := info95_
  cases hi : Tryd.prog.info? 95 with
  | none => rw [hi] at h; cases h
  | some i =>
    rw [hi] at h
    simp only [Option.map_some, Option.some.injEq, Prod.mk.injEq] at h
    exact ⟨i, rfl, h.1, h.2.1, h.2.2⟩
theorem moved_setCells (b : Nat) : ∀ (vs : List Value) (o : Nat) (w : World), Moved w (w.setCells b o vs) fun i => i = b
  | [], o, w => Moved.refl _ _
  | v :: r, o, w => by
    rw [World.setCells]
    exact (Moved.cell0 w b o v).trans (moved_setCells b r (o + 1) _)
/-- Steps' values. -/
def rStepVs (p lp : Nat) (t : Int) (vs : List Value) (l : List Stp) : Res :=
  ⟨fun w T S => (vs.length = l.length ∧ ∀ (i : Nat) (s : Stp) (x : Value), l[i]? = some s → vs[i]? = some x → StepV p lp t w T x s) ∧ ∀ i, ¬ S i, fun h i hi => absurd hi (h.2 i),
   fun h _ hk hT => ⟨⟨h.1.1, fun i s x hs hx => (h.1.2 i s x hs hx).kept (fun i hi => hk i (.inr hi)) hT⟩, h.2⟩⟩
section
variable {w0 w : World} {p lp : Nat} {t : Int} {d : Dsk} {L : List Res}
/-- A whole array is stored in a block of one's own; it is written no more. -/
theorem St.storeArr {b : Nat} {cs : Array Value} {e : TypeId} {vs : List Value} (H : St w0 w (rBlk b (.cells cs e) :: L)) (hl : vs.length = cs.size) : St w0 (w.setCells b 0 vs) (rCells b 0 vs :: L) := by
  refine H.upd fun T S h hS hT => ⟨fun i => T i ∨ i = b, fun _ => False, ⟨⟨.inr rfl, ?_⟩, fun _ h => h⟩, fun _ h => .inl h, fun i hi => ?_, fun _ h => h.elim, fun _ h => h.elim, ?_⟩
  · have hth : w.there b 0 vs.length := fun j hj => by
      refine ⟨?_, free_of_blk h.1 _⟩
      rw [cell_of_blk h.1, Nat.zero_add, Array.getElem?_eq_getElem (by omega)]
      rfl
    exact World.rangeAt_setCells_same w b 0 vs hth
  · have hm := (moved_setCells b vs 0 w).size
    rcases hi with hi | rfl
    · exact ⟨Nat.lt_of_lt_of_le (hT i hi) hm, .inl hi⟩
    · exact ⟨Nat.lt_of_lt_of_le (Array.getElem?_eq_some_iff.1 h.1).1 hm, .inr (.inl ((h.2 _).2 rfl))⟩
  · have hm := moved_setCells b vs 0 w
    exact ⟨hm.os, hm.tape, hm.output, hm.size, fun i hi hn => hm.block i hi fun e => hn ((h.2 i).2 e)⟩
/-- A box, written no more. -/
theorem St.box (H : St w0 w L) (v : Value) (e : TypeId) : St w0 (w.alloc (.cells #[v] e)) (rCells w.heap.size 0 [v] :: L) :=
  (H.alloc (.cells #[v] e)).freeze.imp fun T S h _ _ => ⟨⟨h.1.2, fun j u hj => by
    rw [Nat.zero_add, cell_of_blk h.1.1]
    rw [← hj]
    rcases j with _ | j
    · rfl
    · rfl⟩, h.2⟩
theorem St.noStep (H : St w0 w L) : St w0 w (rStepVs p lp t [] [] :: L) :=
  H.emp.imp fun T S h _ _ => ⟨⟨rfl, fun i s x hs => by simp at hs⟩, h⟩
theorem St.syncStep {vs : List Value} {l : List Stp} (H : St w0 w (rStepVs p lp t vs l :: L)) : St w0 w (rStepVs p lp t (.func (.func 42) #[.pointer (some ⟨p, 0, none⟩)] #[] :: vs) (.sync :: l) :: L) :=
  H.imp fun T S h _ _ => ⟨⟨by simp [h.1.1], fun i s x hs hx => by
    rcases i with _ | i
    · simp at hs hx; subst hs hx; rfl
    · exact h.1.2 i s x (by simpa using hs) (by simpa using hx)⟩, h.2⟩
theorem St.wrStep {vs : List Value} {l : List Stp} {b1 b2 b3 g o c : Nat} {i : Int} {b : Sec} (hb : b.length = 256) (hby : Bytes b)
    (H : St w0 w (rCells b3 0 [.slice (some ⟨g, o, none⟩) 256 c] :: rCells b2 0 [.int .i64 i] :: rCells b1 0 [.pointer (some ⟨p, 0, none⟩)] :: rCells g o (bytes b) :: rStepVs p lp t vs l :: L)) :
    St w0 w (rStepVs p lp t (.func (.func 71) #[] #[.pointer (some ⟨b1, 0, none⟩), .pointer (some ⟨b2, 0, none⟩), .pointer (some ⟨b3, 0, none⟩)] :: vs) (.wr i b :: l) :: L) := by
  refine H.join.join.join.join.imp fun T S h _ _ => ?_
  obtain ⟨S1, S2, ⟨S3, S4, ⟨S5, S6, ⟨S7, S8, h1, h2, _, e4⟩, h3, _, e3⟩, h4, _, e2⟩, h5, _, e1⟩ := h
  refine ⟨⟨by simp [h5.1.1], fun k s x hs hx => ?_⟩, fun j hj => ?_⟩
  · rcases k with _ | k
    · simp at hs hx; subst hs hx
      exact ⟨hb, hby, b1, b2, b3, g, o, c, rfl, h3.1, h2.1, h1.1, h4.1⟩
    · exact h5.1.2 k s x (by simpa using hs) (by simpa using hx)
  · rcases (e1 j).1 hj with hj | hj
    · rcases (e2 j).1 hj with hj | hj
      · rcases (e3 j).1 hj with hj | hj
        · rcases (e4 j).1 hj with hj | hj
          · exact h1.2 j hj
          · exact h2.2 j hj
        · exact h3.2 j hj
      · exact h4.2 j hj
    · exact h5.2 j hj
theorem St.turnStep {vs : List Value} {l : List Stp} {b1 b2 : Nat} {x2 : List Value} (H : St w0 w (rCells b1 0 (.int .i64 t :: x2) :: rCells b2 0 [.pointer (some ⟨lp, 0, none⟩)] :: rStepVs p lp t vs l :: L)) :
    St w0 w (rStepVs p lp t (.func (.func 61) #[] #[.pointer (some ⟨b1, 0, none⟩), .pointer (some ⟨b2, 0, none⟩)] :: vs) (.turn :: l) :: L) := by
  refine H.join.join.imp fun T S h _ _ => ?_
  obtain ⟨S1, S2, ⟨S3, S4, h1, h2, _, e2⟩, h3, _, e1⟩ := h
  refine ⟨⟨by simp [h3.1.1], fun k s x hs hx => ?_⟩, fun j hj => ?_⟩
  · rcases k with _ | k
    · simp at hs hx; subst hs hx
      exact ⟨b1, b2, rfl, ⟨h1.1.1, fun j u hj => by
        rcases j with _ | j
        · exact h1.1.2 0 u (by simpa using hj)
        · simp at hj⟩, h2.1⟩
    · exact h3.1.2 k s x (by simpa using hs) (by simpa using hx)
  · rcases (e1 j).1 hj with hj | hj
    · rcases (e2 j).1 hj with hj | hj
      · exact h1.2 j hj
      · exact h2.2 j hj
    · exact h3.2 j hj
/-- A new block of steps is a row. -/
theorem St.stepRow {g n : Nat} {vs : List Value} {l : List Stp} (hn : l.length = n) (hn2 : n ≤ 1048576) (H : St w0 w (rBlk g (.cells vs.toArray 95) :: rStepVs p lp t vs l :: L)) : St w0 w (rSteps p lp t (.slice (some ⟨g, 0, none⟩) n n) l :: L) := by
  refine H.join.imp fun T S h _ _ => ?_
  obtain ⟨S1, S2, h1, h2, _, e1⟩ := h
  subst hn
  have hvn : vs.length = l.length := h2.1.1
  refine ⟨vs, ⟨by omega, .inr ⟨g, l.length, vs.toArray, rfl, Nat.zero_le _, h1.1, by omega, ?_, ?_, ?_⟩⟩, h2.1.1, h2.1.2, fun i => ?_⟩
  · simp only [maxLen]; omega
  · simp [hvn]
  · rw [Nat.mul_one, ← hvn]; simp
  · rw [e1 i]
    simp only [Value.ownBlock, Option.some.injEq]
    constructor
    · rintro (h | h)
      · exact ((h1.2 i).1 h).symm
      · exact absurd h (h2.2 i)
    · intro h; exact .inl ((h1.2 i).2 h.symm)
end
end Go.Proofs.YtfhdiddlloiglaaDoor
end
section
/- wal.empty, wal.home. -/
namespace Go.Proofs.YtfhdiddlloiglaaDoor
open Go.RowKit Go.Proofs.YtfhdiddlloiglaaDoorW.PrintWords
attribute [local go_sem ↓] Go.wp_at_zero Go.wp_at_succ
set_option linter.unusedVariables false
set_option linter.unusedSimpArgs false
set_option maxRecDepth 100000

theorem rdI_nil (w : World) : RdI w none [] := ⟨rfl, by decide, fun h => absurd h (by simp)⟩
theorem rd_nil (w : World) : Rd w none [] := ⟨rfl, by decide, fun h => absurd h (by simp)⟩
section
variable {w0 w : World} {p lp : Nat} {t : Int} {d : Dsk} {L : List Res}
theorem St.box3 (H : St w0 w L) (x y z : Value) : St w0 (((w.alloc (.cells #[x] 25)).alloc (.cells #[y] 3)).alloc (.cells #[z] 44)) (rCells (w.heap.size + 2) 0 [z] :: rCells (w.heap.size + 1) 0 [y] :: rCells w.heap.size 0 [x] :: L) := by
  have h := ((H.box x 25).box y 3).box z 44
  have e1 : (w.alloc (.cells #[x] 25)).heap.size = w.heap.size + 1 := by simp
  have e2 : ((w.alloc (.cells #[x] 25)).alloc (.cells #[y] 3)).heap.size = w.heap.size + 2 := by simp
  rw [e2, e1] at h
  exact h
/-- What stores a header's array. -/
structure HdrStored (w0 W : World) (b : Nat) (cs : List Value) (L : List Res) : Prop where
  there : W.there b 0 cs.toArray.size
  info : (Tryd.prog.info? 93).map (·.size) = some cs.toArray.size
  one : cs.toArray.all (·.oneCell') = true
  st : St w0 (W.setCells b 0 cs) (rCells b 0 cs :: L)
theorem St.hdrStored {turn : Int} {homes data : List Int} (hl : homes.length ≤ 121) (H : St w0 w L) : HdrStored w0 (w.alloc (.cells Tryd.zeroCells93 93)) w.heap.size (bytes (lhdr turn homes data)) L := by
  have H1 := H.alloc (.cells Tryd.zeroCells93 93)
  have hlen : (bytes (lhdr turn homes data)).length = 256 := by rw [List.length_map]; exact hdr_len hl
  have hblk := H1.blk
  refine ⟨fun j hj => ?_, by rw [info93]; simp [hdr_len hl], all_oneCell_toArray fun v hv => ?_, H1.storeArr (by rw [hlen, zero93])⟩
  · have hj' : j < 256 := by simpa [hdr_len hl] using hj
    refine ⟨?_, free_of_blk hblk _⟩
    rw [cell_of_blk hblk, Nat.zero_add, Array.getElem?_eq_getElem (by rw [zero93]; exact hj')]
    rfl
  · obtain ⟨z, _, rfl⟩ := List.mem_map.1 hv; rfl
set_option maxHeartbeats 600000 in
theorem St.empty {turn : Int} (a : Int) (H : St w0 w L) (hT : Half w0) (ht0 : 0 ≤ turn) (ht1 : turn < 4294967296) : Calls Tryd.prog 33 #[.pointer (some ⟨p, 0, none⟩), .int .i64 a, .int .i64 turn] w fun e w' =>
    ∃ g, e = .returned (.slice (some ⟨g, 0, none⟩) 2 2) ∧ St w0 w' (rSteps p lp t (.slice (some ⟨g, 0, none⟩) 2 2) (emptyS a turn) :: L) := by
  have hd := headed_calls (ca := 0) (cb := 0) (hT.below H.below) (rdI_nil w) rfl (rd_nil w) rfl (fun x h => by simp at h) (by decide) (fun x h => by simp at h) ht0 ht1
  have H0 : St w0 w (rStepVs p lp t [.func (.func 42) #[.pointer (some ⟨p, 0, none⟩)] #[]] [.sync] :: L) := H.noStep.syncStep
  have HD := Aside0.mk hd
  have HH := Aside0.mk H0
  clear hd H0 H hT
  go_enter Tryd.func33, Tryd.ntmps33
  go_wp2_with fail
  refine HD.out.mono ?_
  rintro e W1 ⟨rfl, hb1⟩
  have hs := (HH.out.go hb1).hdrStored (turn := turn) (homes := []) (data := []) (by decide)
  obtain ⟨cs, hcs⟩ : ∃ cs, cs = bytes (lhdr turn [] []) := ⟨_, rfl⟩
  rw [← hcs] at hs ⊢
  obtain ⟨h1, h2, h3, h4⟩ := hs
  have H1 := Aside0.mk h1
  have H2 := Aside0.mk h2
  have H3 := Aside0.mk h3
  have H4 := Aside0.mk h4
  have HC := Aside0.mk hcs
  clear HD HH hb1 hcs h1 h2 h3 h4
  go_upto_region 2 with (refine wpList_store_mid rfl 93 (.tmp 7) (.tmp 9) rfl W1.heap.size 0 cs.toArray rfl rfl H1.out H2.out H3.out ?_)
  obtain ⟨hb, hhb⟩ : ∃ hb, hb = W1.heap.size := ⟨_, rfl⟩
  rw [← hhb] at H4 ⊢
  generalize (W1.alloc (.cells Tryd.zeroCells93 93)).setCells hb 0 cs = W3 at *
  clear H1 H2 H3 hhb
  have hw := Aside0.mk (write_calls W3 (.pointer (some ⟨p, 0, none⟩)) ⟨_, rfl⟩ a (some ⟨hb, 0, none⟩) 256 256)
  go_wp2_with fail
  refine hw.out.mono ?_
  rintro e W4 ⟨rfl, rfl⟩
  have H5 := H4.out.box3 (.pointer (some ⟨p, 0, none⟩)) (.int .i64 a) (.slice (some ⟨hb, 0, none⟩) 256 256)
  rw [HC.out] at H5
  have H6 := (H5.wrStep (hdr_len (by decide)) (hdr_ok (by decide)).2).alloc (.cells #[.func (.func 71) #[] #[.pointer (some ⟨W3.heap.size, 0, none⟩), .pointer (some ⟨W3.heap.size + 1, 0, none⟩), .pointer (some ⟨W3.heap.size + 2, 0, none⟩)], .func (.func 42) #[.pointer (some ⟨p, 0, none⟩)] #[]] 95)
  have e3 : (((W3.alloc (.cells #[.pointer (some ⟨p, 0, none⟩)] 25)).alloc (.cells #[.int .i64 a] 3)).alloc (.cells #[.slice (some ⟨hb, 0, none⟩) 256 256] 44)).heap.size = W3.heap.size + 1 + 1 + 1 := by simp
  rw [e3] at H6
  have H7 := Aside0.mk (St.stepRow (n := 2) rfl (by decide) H6)
  clear hw H5 H6 H4 e3
  go_wp2
  go_ret
  exact ⟨_, rfl, H7.out⟩
end
end Go.Proofs.YtfhdiddlloiglaaDoor
end
section
/- append of steps. -/
namespace Go.Proofs.YtfhdiddlloiglaaDoor
open Go.RowKit Go.Proofs.YtfhdiddlloiglaaDoorW.PrintWords
attribute [local go_sem ↓] Go.wp_at_zero Go.wp_at_succ
set_option linter.unusedVariables false
set_option linter.unusedSimpArgs false
set_option maxRecDepth 100000

section
variable {w0 w : World} {p lp : Nat} {t : Int} {d : Dsk} {L : List Res}
theorem StepV.one {T : Foot} {v : Value} {s : Stp} (h : StepV p lp t w T v s) : v.oneCell' = true := by
  cases s with
  | wr i b => obtain ⟨_, _, _, _, _, _, _, _, rfl, _⟩ := h; rfl
  | sync => obtain rfl := h; rfl
  | turn => obtain ⟨_, _, rfl, _⟩ := h; rfl
theorem St.stepsOpen {v : Value} {l : List Stp} (H : St w0 w (rSteps p lp t v l :: L)) : ∃ vs, St w0 w (rRow 95 1 v l.length vs :: rStepVs p lp t vs l :: L) := by
  have h : St w0 w (rEx (fun vs => rTwo (rRow 95 1 v l.length vs) (rStepVs p lp t vs l)) :: L) := H.imp fun T S h _ _ => by
    obtain ⟨vs, h1, h2, h3, h4⟩ := h
    exact ⟨vs, S, fun _ => False, ⟨h1, h4⟩, ⟨⟨h2, h3⟩, fun _ h => h⟩, fun _ _ h => h, fun i => by simp⟩
  obtain ⟨vs, h⟩ := h.ex1
  exact ⟨vs, h.split⟩
theorem St.stepsClose {v : Value} {l : List Stp} {vs : List Value} (H : St w0 w (rRow 95 1 v l.length vs :: rStepVs p lp t vs l :: L)) : St w0 w (rSteps p lp t v l :: L) :=
  H.join.imp fun T S h _ _ => by
    obtain ⟨S1, S2, h1, h2, _, e⟩ := h
    refine ⟨vs, h1.1, h2.1.1, h2.1.2, fun i => ?_⟩
    rw [e i, ← h1.2 i]
    exact ⟨fun h => h.elim id fun h => absurd h (h2.2 i), .inl⟩
theorem St.noSteps (H : St w0 w L) : St w0 w (rSteps p lp t (.slice none 0 0) [] :: L) :=
  H.emp.imp fun T S h _ _ => ⟨[], ⟨rfl, .inl ⟨rfl, rfl⟩⟩, rfl, fun i s x hs => by simp at hs, fun i => ⟨fun hi => absurd hi (h i), fun h => by simp [Value.ownBlock] at h⟩⟩
theorem St.vsApp {vs vs2 : List Value} {l l2 : List Stp} (H : St w0 w (rStepVs p lp t vs l :: rStepVs p lp t vs2 l2 :: L)) : St w0 w (rStepVs p lp t (vs ++ vs2) (l ++ l2) :: L) :=
  H.join.imp fun T S h _ _ => by
    obtain ⟨S1, S2, h1, h2, _, e⟩ := h
    have hl := h1.1.1
    refine ⟨⟨by simp [h1.1.1, h2.1.1], fun i s x hs hx => ?_⟩, fun i hi => ((e i).1 hi).elim (h1.2 i) (h2.2 i)⟩
    by_cases hi : i < l.length
    · rw [List.getElem?_append_left hi] at hs
      rw [List.getElem?_append_left (by omega)] at hx
      exact h1.1.2 i s x hs hx
    · rw [List.getElem?_append_right (by omega)] at hs
      rw [List.getElem?_append_right (by omega), hl] at hx
      exact h2.1.2 _ s x hs hx
/-- append of steps, as a run equation. -/
theorem St.appS {v : Value} {l l2 : List Stp} {g2 m c2 : Nat} (H : St w0 w (rSteps p lp t (.slice (some ⟨g2, 0, none⟩) m c2) l2 :: rSteps p lp t v l :: L)) (hm : l2.length = m) (hm0 : 0 < m) (hl : l.length + m ≤ 1048576) :
    ∃ g c w1, (Builtin.append_ #[66, 66] 66 #[v, .slice (some ⟨g2, 0, none⟩) m c2]).run Tryd.prog w = .ok (.slice (some ⟨g, 0, none⟩) (l.length + m) c) w1 ∧ St w0 w1 (rSteps p lp t (.slice (some ⟨g, 0, none⟩) (l.length + m) c) (l ++ l2) :: L) := by
  obtain ⟨vs2, H⟩ := H.stepsOpen
  obtain ⟨vs, H⟩ := (St.rot3 H).stepsOpen
  -- row v, vals vs, row2, vals vs2, L
  obtain ⟨T, S, hT, _⟩ := (St.rot4 H).withT
  have hv2 : vs2.length = m := by rw [hT.1.1, hm]
  have hone : ∀ u ∈ vs2, u.oneCell' = true := fun u hu => by
    obtain ⟨i, hi, rfl⟩ := List.mem_iff_getElem.1 hu
    have hi2 : i < l2.length := by rw [hm, ← hv2]; exact hi
    exact (hT.1.2 i l2[i] vs2[i] (List.getElem?_eq_getElem hi2) (List.getElem?_eq_getElem hi)).one
  have hc2 := (St.rot3 H).row.cells (g := g2) rfl
  obtain ⟨i0, hi, hz0, hz1, hz2⟩ := info95
  obtain ⟨v', w1, h1, h2, h3, h4, h5⟩ := run_append_own_at (w := w) (P := Tryd.prog) (t := 66) (ty := 66) (e := 95) (base := 0) (i := i0) (z := .nilFunc) (size := 1) (bytes := 8) (ht := Tryd.underlying66) (hi := hi) (hz := hz0) (hsize := hz1) (hby := hz2) (hzs := rfl) (hsz := by decide) (v := v) (n := l.length) (xs := vs) (hown := H.row) (a := ⟨g2, 0, none⟩) (m := m) (c := c2) (news := vs2) (hl := by rw [hv2, Nat.mul_one]) (hnews := hc2) (h1 := hone) (h63 := by simp only [maxLen]; omega) (hbytes := by omega) (hbase := Nat.zero_le _)
  obtain ⟨g, c, e⟩ : ∃ g c, v' = .slice (some ⟨g, 0, none⟩) (l.length + m) c := by
    obtain ⟨g, c, e, _⟩ := h2.form (by omega)
    exact ⟨g, c, e⟩
  subst e
  refine ⟨g, c, w1, h1, ?_⟩
  have H1 := H.setRow h2 h3 (h5.imp_right fun e k hk => by rw [e] at hk; injection hk with hk; omega)
  -- row', vals vs, row2, vals vs2
  have H2 := St.swap (St.rot3 H1).drop
  -- vals vs, row', vals vs2 ?
  have H3 := St.swap H2
  have H4 : St w0 w1 (rRow 95 1 (.slice (some ⟨g, 0, none⟩) (l.length + m) c) (l.length + m) (vs ++ vs2) :: rStepVs p lp t (vs ++ vs2) (l ++ l2) :: L) := St.swap (St.vsApp (St.back3 H3))
  have e : l.length + m = (l ++ l2).length := by simp [hm]
  have H5 : St w0 w1 (rRow 95 1 (.slice (some ⟨g, 0, none⟩) (l.length + m) c) (l ++ l2).length (vs ++ vs2) :: rStepVs p lp t (vs ++ vs2) (l ++ l2) :: L) := by rw [← e]; exact H4
  exact H5.stepsClose
end
section
variable {ops : Array Oper} {o : Oper} {a : Act} {W w0 : World} {Q : Exit → Act → World → Prop} {rest : List Oper} {L : List Res} {p lp : Nat} {t : Int}
theorem wpl_appS (hg : o.guard = none) (x y : Operand) (hop : o.op = Op.call { callee := Callee.builtin Builtin.append, args := #[x, y], argTypes := #[66, 66] }) (hty : o.type = 66)
    (v : Value) (l l2 : List Stp) (g2 m c2 : Nat) (hx : a.eval x = v) (hy : a.eval y = .slice (some ⟨g2, 0, none⟩) m c2) (hm : l2.length = m) (hm0 : 0 < m) (hl : l.length + m ≤ 1048576)
    (H : St w0 W (rSteps p lp t (.slice (some ⟨g2, 0, none⟩) m c2) l2 :: rSteps p lp t v l :: L))
    (hK : ∀ w1 g c, St w0 w1 (rSteps p lp t (.slice (some ⟨g, 0, none⟩) (l.length + m) c) (l ++ l2) :: L) → wpList Tryd.prog ops Q rest (a.put o.dst (.slice (some ⟨g, 0, none⟩) (l.length + m) c)) w1) : wpList Tryd.prog ops Q (o :: rest) a W := by
  refine wpList_plain hg fun K hK' => ?_
  obtain ⟨g, c, w1, hrun, h1⟩ := H.appS hm hm0 hl
  unfold Oper.wp execOp
  have hrun' : (Builtin.append_ #[66, 66] o.type #[v, .slice (some ⟨g2, 0, none⟩) m c2]).run Tryd.prog W = .ok (.slice (some ⟨g, 0, none⟩) (l.length + m) c) w1 := by rw [hty]; exact hrun
  simp only [hop, resolve, invoke, builtin, Sem.run_bind, Sem.run_pure, Result.andThen_ok, List.map_toArray, List.map_cons, List.map_nil, hx, hy, hrun']
  exact hK' _ _ (hK w1 g c h1)
end
end Go.Proofs.YtfhdiddlloiglaaDoor
end
