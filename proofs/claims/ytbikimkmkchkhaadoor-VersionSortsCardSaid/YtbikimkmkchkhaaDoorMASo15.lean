/- VersionSorts: the reference's Sort. -/
import Derived.Test.YtbikimkmkchkhaaDoorMASo14
import Derived.Deep.DeepCutAuto
namespace Go.Proofs.YtbikimkmkchkhaaDoor
open Go.RowKit Go.Proofs.YtbikimkmkchkhaaDoorW.PrintWords
attribute [local go_sem ↓] Go.wp_at_zero Go.wp_at_succ
set_option linter.unusedVariables false
set_option linter.unusedSimpArgs false
set_option maxRecDepth 100000

/-- append at a step of a region that draws its order, by its run. -/
theorem step_app_run {P : Program} {w : World} {ops : Array Oper} {o : Oper} {a : Act} {K : Act → World → Prop} {Q : Exit → Act → World → Prop} {E : Prop} {t : TypeId} (hgd : o.guard = none) (s x : Operand)
    (ho : o.op = .call { callee := .builtin .append, args := #[s, x], argTypes := #[t, t] }) (v u : Value) (hs : a.eval s = v) (hx : a.eval x = u) {ty : TypeId} (hty : o.type = ty) {v' : Value} {w' : World} (hrun : (Builtin.append_ #[t, t] ty #[v, u]).run P w = .ok v' w')
    (h : K (a.put o.dst v') w') : if Region.wanted o (yielded ops a.tmps) = true then Oper.wp P o a w K Q else E := by
  have hw : Region.wanted o (yielded ops a.tmps) = true := by simp [Region.wanted, hgd]
  rw [if_pos hw]
  subst hty
  unfold Oper.wp execOp
  simp only [ho, resolve, invoke, builtin, Sem.run_bind, Sem.run_pure, Result.andThen_ok, List.map_toArray, List.map_cons, List.map_nil, hs, hx, hrun]
  exact h
/-- append's run, gated: two of them meet argument by argument. -/
structure AppRun (v u : Value) (w : World) (v' : Value) (w' : World) : Prop where
  out : (Builtin.append_ #[39, 39] 39 #[v, u]).run Tryd.prog w = .ok v' w'
theorem step_app {w : World} {ops : Array Oper} {o : Oper} {a : Act} {K : Act → World → Prop} {Q : Exit → Act → World → Prop} {E : Prop} (hgd : o.guard = none) (s x : Operand)
    (ho : o.op = .call { callee := .builtin .append, args := #[s, x], argTypes := #[39, 39] }) (hty : o.type = 39) {v u v' : Value} {w' : World} (hrun : AppRun v u w v' w') (hs : a.eval s = v) (hx : a.eval x = u)
    (h : K (a.put o.dst v') w') : if Region.wanted o (yielded ops a.tmps) = true then Oper.wp Tryd.prog o a w K Q else E :=
  step_app_run hgd s x ho v u hs hx hty hrun.out h
section
variable {w0 w : World} {g c : Nat} {L : List Res}
theorem St.rcmpR {W : World} {M : List Res} (H : St w0 W M) {x y : VE} (hx : VOk w0 x) (hy : VOk w0 y) (d : Nat) (os : Array Obj) : Calls Tryd.prog 13 #[.agg #[.slice x.A x.p.length x.c, .string x.t], .agg #[.slice y.A y.p.length y.c, .string y.t]] (Sort.grow (redrawn W d) os) fun e w' => e = .returned (.int .i64 (ord x y)) ∧ ∃ p : Regrown, w' = Sort.grow (redrawn W p.d) p.os :=
  Calls.regrown_of (((H.go (below_regrown W d os)).rcmp hx hy).mono fun e w' ⟨h1, h2⟩ => ⟨h1, h2⟩)
set_option maxHeartbeats 8000000 in
theorem St.rsort {T0 : List TE} {A : Addr} {N cl : Nat} (H : St w0 w L) (hN : T0.length = N) (hN2 : N ≤ 500) (hok : ∀ t ∈ T0, VOk w0 t.1) (htag : T0.Pairwise (fun s t => s.2 < t.2))
    (hz : ∀ i (h : i < T0.length), w0.cell? (A.add (i * 2)) = some (T0[i].1.p0) ∧ w0.cell? ⟨(A.add (i * 2)).block, (A.add (i * 2)).off + 1, none⟩ = some (T0[i].1.t0)) :
    Calls Tryd.prog 19 #[.slice (some A) N cl] w fun e w' => ∃ g' c' Z, e = .returned (.slice (some ⟨g', 0, none⟩) N c') ∧ Z.Perm T0 ∧ Srt Z ∧ St w0 w' (rVs g' c' (un Z) :: L) := by
  have H0 : Aside0 (St w0 (w.alloc (.cells #[] 24)) (rVs w.heap.size 0 (un []) :: L)) := ⟨(H.alloc (.cells #[] 24)).vvNil⟩
  have HN := Aside0.mk hN
  have HOK := Aside0.mk hok
  have HTG := Aside0.mk htag
  have HZ := Aside0.mk hz
  clear H hN hok htag hz
  go_enter Tryd.func19, Tryd.ntmps19
  go_wp2_with fail
  go_loopw [3, 4] (fun v3 v4 W => ∃ (i g c : Nat) (Z : List TE), v3 = .slice (some ⟨g, 0, none⟩) i c ∧ v4 = .int .i64 (i : Int) ∧ i ≤ N ∧ Aside0 (Z.Perm (T0.take i)) ∧ Aside0 (Srt Z) ∧ Aside0 (St w0 W (rVs g c (un Z) :: L))) (fun _ v4 _ => N - (RowKit.intOf v4).toNat)
  case atStart => exact ⟨0, w.heap.size, 0, [], rfl, rfl, Nat.zero_le _, ⟨List.Perm.refl _⟩, ⟨List.Pairwise.nil⟩, H0⟩
  case round =>
    clear H0
    obtain ⟨i, g, c, Z, rfl, rfl, hi, HP, HS, HI⟩ := hrel
    by_cases hiN : i < N
    · have t1 : decide ((i : Int) < (N : Int)) = true := decide_eq_true (by omega)
      have t1' : (i : Int) < (N : Int) := by omega
      have hiT : i < T0.length := by rw [HN.out]; exact hiN
      obtain ⟨x, hx⟩ : ∃ x, x = T0[i] := ⟨_, rfl⟩
      have hdrop : T0.drop i = x :: T0.drop (i + 1) := by rw [hx]; exact List.drop_eq_getElem_cons hiT
      have hZl : Z.length = i := by rw [HP.out.length_eq]; simp; omega
      have hxt : ∀ y ∈ Z, y.2 < x.2 := by
        intro y hy
        have hy := HP.out.subset hy
        have e : T0 = T0.take i ++ x :: T0.drop (i + 1) := by rw [← hdrop, List.take_append_drop]
        have hp := HTG.out
        rw [e] at hp
        exact (List.pairwise_append.1 hp).2.2 y hy x (List.mem_cons_self)
      have hxo : VOk w0 x.1 := HOK.out x (by rw [hx]; exact List.getElem_mem _)
      have hZo : ∀ y ∈ Z, VOk w0 y.1 := fun y hy => HOK.out y (List.mem_of_mem_take (HP.out.subset hy))
      have HP' : Aside0 ((Z ++ [x]).Perm (T0.take (i + 1))) := ⟨by rw [List.take_succ_eq_append_getElem hiT, ← hx]; exact HP.out.append_right _⟩
      have hcx := HZ.out i hiT
      rw [← hx] at hcx
      have HCX : Aside0 (w0.cell? (A.add (i * 2)) = some (.slice x.1.A x.1.p.length x.1.c) ∧ w0.cell? ⟨(A.add (i * 2)).block, (A.add (i * 2)).off + 1, none⟩ = some (.string x.1.t)) := ⟨hcx⟩
      have HZL := Aside0.mk hZl
      have HX := Aside0.mk hxt
      have HXO := Aside0.mk hxo
      have HZO := Aside0.mk hZo
      have q5 : (0 : Int) ≤ (i : Int) := by omega
      clear hx hdrop hZl hxt hxo hZo hiT hcx HP
      go_wp2_with fail
      go_loopw [5] (fun v5 W => ∃ (k : Nat), v5 = .int .i64 (k : Int) ∧ k ≤ i ∧ Aside0 (∀ z ∈ Z.drop k, tlt x z) ∧ Aside0 (St w0 W (rVs g c (un Z) :: L))) (fun v5 _ => (RowKit.intOf v5).toNat)
      case atStart => exact ⟨i, rfl, Nat.le_refl _, ⟨by rw [List.drop_of_length_le (by rw [HZL.out]; omega)]; simp⟩, HI⟩
      case round =>
        clear HI
        obtain ⟨k, rfl, hk, HG, HI⟩ := hrel
        by_cases hk0 : 0 < k
        · have v1 : decide ((0 : Int) < (k : Int)) = true := decide_eq_true (by omega)
          have v1' : (0 : Int) < (k : Int) := by omega
          obtain ⟨k', hk'⟩ : ∃ k', k = k' + 1 := ⟨k - 1, by omega⟩
          have hkl : k' < Z.length := by rw [HZL.out]; omega
          obtain ⟨y, hy⟩ : ∃ y, y = Z[k'] := ⟨_, rfl⟩
          have hym : y ∈ Z := by rw [hy]; exact List.getElem_mem _
          have hyg : (un Z)[k']? = some y.1 := by rw [un, List.getElem?_map, List.getElem?_eq_getElem hkl, hy]; rfl
          obtain ⟨c0, c1, _, _⟩ := HI.out.two hyg hyg
          have hyo := HZO.out y hym
          have r1 := HI.out.rcmpR hyo HXO.out
          have hb := HI.out.below
          have cx := HCX.out
          have c2 := (hb.cell (World.block_lt_of_cell? w0 _ cx.1)).trans cx.1
          have c3 := (hb.cell (World.block_lt_of_cell? w0 _ cx.2)).trans cx.2
          have k0 := cell_regrown c0
          have k1 := cell_regrown c1
          have k2 := cell_regrown c2
          have k3 := cell_regrown c3
          have wi : IntKind.i64.wrap ((k : Int) - 1) = (k' : Int) := by rw [IntWalk.i64_in _ (by omega)]; omega
          have q1 : (0 : Int) ≤ (k' : Int) := by omega
          have q2 : (k' : Int) < (i : Int) := by omega
          have hyt := HX.out y hym
          have hup : ∀ _ : ord x.1 y.1 < 0, ∀ z ∈ Z.drop k', tlt x z := fun h z hz => by
            rw [List.drop_eq_getElem_cons hkl, ← hy] at hz
            rcases List.mem_cons.1 hz with rfl | hz
            · exact tlt_of_lt h
            · exact HG.out z (by rw [hk']; exact hz)
          have hlo : ∀ _ : ¬ ord x.1 y.1 < 0, ∀ z ∈ Z.take k, tlt z x := fun h => by
            have e : Z.take k = Z.take k' ++ [y] := by rw [hk', List.take_succ_eq_append_getElem hkl, hy]
            have hs : Srt (Z.take k' ++ [y]) := by
              rw [← e]
              have := HS.out
              rw [← List.take_append_drop k Z] at this
              exact (List.pairwise_append.1 this).1
            rw [e]
            exact all_lt hs (tlt_of_ge h hyt)
          have hneg := ord_neg x.1 y.1
          have HUP := Aside0.mk hup
          have HLO := Aside0.mk hlo
          have HK := Aside0.mk hk'
          have HNG := Aside0.mk hneg
          clear hk' hkl hy hym hyg c0 c1 c2 c3 hyo hb cx hyt hup hlo hneg
          go_wp2_with fail
          refine wp_region_quiet_below (by kernel_rfl) (by kernel_rfl) ?_
          repeat (
            with_reducible refine wpQuiet_step ?_
            intro KK hK
            go_simp
            first
              | (with_reducible refine hK _ ?_; clear hK KK)
              | (apply Exists.intro
                 refine ⟨fun _ => ?_, hK _ ?_⟩
                 (first | with_reducible exact r1 _ _)
                 clear hK KK))
          refine wpQuiet_nil ?_
          intro _ hw'
          obtain ⟨⟨dq, osq⟩, hw''⟩ := hw'
          subst hw''
          have HW := Aside0.mk (HI.out.go (below_regrown wr dq osq))
          clear k0 k1 k2 k3 r1 HI wi
          generalize Sort.grow (redrawn wr dq) osq = W at *
          by_cases hlt0 : ord x.1 y.1 < 0
          · have b2 : decide (0 < ord y.1 x.1) = true := decide_eq_true (by have := HNG.out; omega)
            have b2' : 0 < ord y.1 x.1 := by have := HNG.out; omega
            have HG2 := Aside0.mk (HUP.out hlt0)
            have hkk : k' ≤ i := by omega
            clear HUP HLO hlt0 HG
            go_wp2
            go_roundw
            case rel => exact ⟨k', by congr 1; have := HK.out; omega, hkk, HG2, HW⟩
            case measure => simp only [RowKit.intOf]; have := HK.out; omega
          · have b2 : decide (0 < ord y.1 x.1) = false := decide_eq_false (by have := HNG.out; omega)
            have b2' : ord y.1 x.1 ≤ 0 := by have := HNG.out; omega
            have hge : 0 ≤ ord x.1 y.1 := by omega
            have hlow : ∀ z ∈ Z.take k, tlt z x := by first | exact HLO.out hge | exact HLO.out hlt0
            clear HUP HLO hlt0 q1 q2 HK HNG hge
            by_cases hck : ¬ (c = k)
            · as_aux_lemma =>
              have hci : i ≤ c := by
                rcases HW.out.row.2 with ⟨h, _⟩ | ⟨g', cap, cur, e1, _, _, h3, _⟩
                · cases h
                · injection e1 with _ e2 e3
                  rw [un_len, HZL.out] at e2
                  rw [e3]
                  have := HW.out.row.1
                  first | omega | (rw [un_len, HZL.out] at h3; omega)
              have hform : St w0 W.drew (rVs g c (un (Z.take k) ++ un (Z.drop k)) :: L) := by rw [← un_app, List.take_append_drop]; exact HW.out.drew
              have hl1 : (un (Z.take k)).length = k := by rw [un_len]; simp; have := HZL.out; omega
              have hl2 : (un (Z.drop k)).length = i - k := by rw [un_len]; simp; have := HZL.out; omega
              have hSx : ∀ W' : World, Below w0.heap.size w0 W' → W'.cell? (A.add (i * 2)) = some (.slice x.1.A x.1.p.length x.1.c) ∧ W'.cell? ⟨(A.add (i * 2)).block, (A.add (i * 2)).off + 1, none⟩ = some (.string x.1.t) := fun W' hb => by
                obtain ⟨h1, h2⟩ := HCX.out
                exact ⟨(hb.cell (World.block_lt_of_cell? w0 _ h1)).trans h1, (hb.cell (World.block_lt_of_cell? w0 _ h2)).trans h2⟩
              have hins := hform.ins3 (x := x.1) (A3 := ⟨g, k * 2, none⟩) (k3 := c - k) (by rw [hl1, hl2]; omega) (.inr (by rw [hl1]))
              rw [hl1, hl2] at hins
              obtain ⟨g1, c1, W2, g2, c2, W3, g3, c3, W4, e1, e2, e3, hb2, hb3, hb4, hfin⟩ := hins
              have hw : W.drew.alloc (.cells #[] 24) = (W.alloc (.cells #[] 24)).drew := rfl
              have hz0 : W.drew.heap.size = W.heap.size := rfl
              rw [hw, hz0] at e1
              have eln : k + 1 + (i - k) = i + 1 := by omega
              replace e3 := e3.trans (congrArg (fun n => Result.ok (Value.slice (some ⟨g3, 0, none⟩) n c3) W4) eln)
              simp only [VE.p0, VE.t0] at e2
              have hinB := hform.preB (x := x.1) |>.ins3R (A3 := ⟨g, k * 2, none⟩) (k3 := c - k) (by rw [hl1, hl2]; omega) (.inr (by rw [hl1]))
              have hinC := hform.preC (x := x.1) |>.ins3R (A3 := ⟨g, k * 2, none⟩) (k3 := c - k) (by rw [hl1, hl2]; omega) (.inr (by rw [hl1]))
              rw [hl1, hl2] at hinB hinC
              obtain ⟨bg1, bc1, X2, bg2, bc2, X3, bg3, bc3, X4, eb1, eb2, eb3, bb2, bb3, bb4, bfin⟩ := hinB
              obtain ⟨cg1, cc1, Y2, cg2, cc2, Y3, cg3, cc3, Y4, ec1, ec2, ec3, cb2, cb3, cb4, cfin⟩ := hinC
              replace eb3 := eb3.trans (congrArg (fun n => Result.ok (Value.slice (some ⟨bg3, 0, none⟩) n bc3) X4) eln)
              replace ec3 := ec3.trans (congrArg (fun n => Result.ok (Value.slice (some ⟨cg3, 0, none⟩) n cc3) Y4) eln)
              have hwB : (W.drew.alloc (.cells #[] 24)).alloc (.cells #[x.1.p0, x.1.t0] 24) = ((W.alloc (.cells #[] 24)).alloc (.cells #[x.1.p0, x.1.t0] 24)).drew := rfl
              have hwC : (W.drew.alloc (.cells #[x.1.p0, x.1.t0] 24)).alloc (.cells #[] 24) = ((W.alloc (.cells #[x.1.p0, x.1.t0] 24)).alloc (.cells #[] 24)).drew := rfl
              rw [hwB, hz0] at eb1
              rw [hwC, hz0] at ec1
              rw [hz0] at eb2 ec2
              simp only [VE.p0, VE.t0] at eb1 ec1
              have S0 := Aside0.mk (hSx _ HW.out.drew.below)
              have S1 := Aside0.mk (hSx _ (HW.out.drew.alloc (.cells #[] 24)).below)
              have S2 := Aside0.mk (hSx _ hb2)
              have S3 := Aside0.mk (hSx _ (hb2.alloc hb2.size (.cells #[.slice x.1.A x.1.p.length x.1.c, .string x.1.t] 24)))
              have S4 := Aside0.mk (hSx _ hb3)
              have S5 := Aside0.mk (hSx _ hb4)
              have S6 := Aside0.mk (hSx _ ((HW.out.drew.alloc (.cells #[] 24)).alloc (.cells #[.slice x.1.A x.1.p.length x.1.c, .string x.1.t] 24)).below)
              have S7 := Aside0.mk (hSx _ bb2)
              have S8 := Aside0.mk (hSx _ bb3)
              have S9 := Aside0.mk (hSx _ bb4)
              have S10 := Aside0.mk (hSx _ (HW.out.drew.alloc (.cells #[.slice x.1.A x.1.p.length x.1.c, .string x.1.t] 24)).below)
              have S11 := Aside0.mk (hSx _ ((HW.out.drew.alloc (.cells #[.slice x.1.A x.1.p.length x.1.c, .string x.1.t] 24)).alloc (.cells #[] 24)).below)
              have S12 := Aside0.mk (hSx _ cb2)
              have S13 := Aside0.mk (hSx _ cb3)
              have S14 := Aside0.mk (hSx _ cb4)
              have HFB : Aside0 (St w0 X4 (rVs bg3 bc3 (un (Z.take k ++ x :: Z.drop k)) :: L)) := ⟨by rw [un_app, un_cons]; exact bfin⟩
              have HFC : Aside0 (St w0 Y4 (rVs cg3 cc3 (un (Z.take k ++ x :: Z.drop k)) :: L)) := ⟨by rw [un_app, un_cons]; exact cfin⟩
              have hS2 : Aside0 (Srt (Z.take k ++ x :: Z.drop k)) := ⟨srt_ins (by rw [List.take_append_drop]; exact HS.out) hlow HG.out⟩
              have hP2 : Aside0 ((Z.take k ++ x :: Z.drop k).Perm (T0.take (i + 1))) := ⟨perm_ins (List.take_append_drop k Z).symm HP'.out⟩
              have HF : Aside0 (St w0 W4 (rVs g3 c3 (un (Z.take k ++ x :: Z.drop k)) :: L)) := ⟨by rw [un_app, un_cons]; exact hfin⟩
              have p1 : (0 : Int) ≤ (k : Int) := by omega
              have p2 : (k : Int) ≤ (i : Int) := by omega
              have p3 : (i : Int) ≤ (c : Int) := by omega
              have p4 : (k : Int) ≤ (c : Int) := by omega
              have p5 : (0 : Int) ≤ (i : Int) := by omega
              clear hform hl1 hl2 hSx hw hz0 eln hb2 hb3 hb4 hfin hlow HW HG HP' hwB hwC bb2 bb3 bb4 bfin cb2 cb3 cb4 cfin
              have f1 := AppRun.mk e1
              have f2 := AppRun.mk e2
              have f3 := AppRun.mk e3
              have fb1 := AppRun.mk eb1
              have fb2 := AppRun.mk eb2
              have fb3 := AppRun.mk eb3
              have fc1 := AppRun.mk ec1
              have fc2 := AppRun.mk ec2
              have fc3 := AppRun.mk ec3
              clear e1 e2 e3 eb1 eb2 eb3 ec1 ec2 ec3
              go_wp2_with fail
              go_region_held3 (fun W' => W'.cell? (A.add (i * 2)) = some (.slice x.1.A x.1.p.length x.1.c) ∧ W'.cell? ⟨(A.add (i * 2)).block, (A.add (i * 2)).off + 1, none⟩ = some (.string x.1.t))
                ((first | exact S0.out | exact S1.out | exact S2.out | exact S3.out | exact S4.out | exact S5.out | exact S6.out | exact S7.out | exact S8.out | exact S9.out | exact S10.out | exact S11.out | exact S12.out | exact S13.out | exact S14.out))
                ((first
                  | (refine step_app rfl (.tmp 32) (.tmp 35) rfl rfl f1 rfl rfl ?_)
                  | (refine step_app rfl (.tmp 36) (.tmp 41) rfl rfl f2 rfl rfl ?_)
                  | (refine step_app rfl (.tmp 42) (.tmp 45) rfl rfl f3 rfl rfl ?_)
                  | (refine step_app rfl (.tmp 32) (.tmp 35) rfl rfl fb1 rfl rfl ?_)
                  | (refine step_app rfl (.tmp 36) (.tmp 41) rfl rfl fb2 rfl rfl ?_)
                  | (refine step_app rfl (.tmp 42) (.tmp 45) rfl rfl fb3 rfl rfl ?_)
                  | (refine step_app rfl (.tmp 32) (.tmp 35) rfl rfl fc1 rfl rfl ?_)
                  | (refine step_app rfl (.tmp 36) (.tmp 41) rfl rfl fc2 rfl rfl ?_)
                  | (refine step_app rfl (.tmp 42) (.tmp 45) rfl rfl fc3 rfl rfl ?_)))
              all_goals (
                go_wp2
                go_roundw
                case rel => first | exact ⟨i + 1, g3, c3, _, rfl, by go_num, hiN, hP2, hS2, HF⟩ | exact ⟨i + 1, bg3, bc3, _, rfl, by go_num, hiN, hP2, hS2, HFB⟩ | exact ⟨i + 1, cg3, cc3, _, rfl, by go_num, hiN, hP2, hS2, HFC⟩
                case measure => simp only [RowKit.intOf]; omega)
            · as_aux_lemma =>
              have hck' : k = c := by omega
              subst hck'
              clear hck
              have hci : i ≤ k := by
                rcases HW.out.row.2 with ⟨h, _⟩ | ⟨g', cap, cur, e1, _, _, h3, _⟩
                · cases h
                · injection e1 with _ e2 e3
                  rw [un_len, HZL.out] at e2
                  rw [e3]
                  have := HW.out.row.1
                  first | omega | (rw [un_len, HZL.out] at h3; omega)
              have hform : St w0 W.drew (rVs g k (un (Z.take k) ++ un (Z.drop k)) :: L) := by rw [← un_app, List.take_append_drop]; exact HW.out.drew
              have hl1 : (un (Z.take k)).length = k := by rw [un_len]; simp; have := HZL.out; omega
              have hl2 : (un (Z.drop k)).length = 0 := by rw [un_len]; simp; have := HZL.out; omega
              have hSx : ∀ W' : World, Below w0.heap.size w0 W' → W'.cell? (A.add (i * 2)) = some (.slice x.1.A x.1.p.length x.1.c) ∧ W'.cell? ⟨(A.add (i * 2)).block, (A.add (i * 2)).off + 1, none⟩ = some (.string x.1.t) := fun W' hb => by
                obtain ⟨h1, h2⟩ := HCX.out
                exact ⟨(hb.cell (World.block_lt_of_cell? w0 _ h1)).trans h1, (hb.cell (World.block_lt_of_cell? w0 _ h2)).trans h2⟩
              have hins := hform.ins3 (x := x.1) (A3 := ⟨g, 0, none⟩) (k3 := 0) (by rw [hl1, hl2]; omega) (.inl (by have : Z.drop k = [] := List.drop_of_length_le (by rw [HZL.out]; omega); rw [this]; rfl))
              rw [hl1, hl2] at hins
              obtain ⟨g1, c1, W2, g2, c2, W3, g3, c3, W4, e1, e2, e3, hb2, hb3, hb4, hfin⟩ := hins
              have hw : W.drew.alloc (.cells #[] 24) = (W.alloc (.cells #[] 24)).drew := rfl
              have hz0 : W.drew.heap.size = W.heap.size := rfl
              rw [hw, hz0] at e1
              have eln : k + 1 + (0) = i + 1 := by omega
              replace e3 := e3.trans (congrArg (fun n => Result.ok (Value.slice (some ⟨g3, 0, none⟩) n c3) W4) eln)
              simp only [VE.p0, VE.t0] at e2
              have hinB := hform.preB (x := x.1) |>.ins3R (A3 := ⟨g, 0, none⟩) (k3 := 0) (by rw [hl1, hl2]; omega) (.inl (by have : Z.drop k = [] := List.drop_of_length_le (by rw [HZL.out]; omega); rw [this]; rfl))
              have hinC := hform.preC (x := x.1) |>.ins3R (A3 := ⟨g, 0, none⟩) (k3 := 0) (by rw [hl1, hl2]; omega) (.inl (by have : Z.drop k = [] := List.drop_of_length_le (by rw [HZL.out]; omega); rw [this]; rfl))
              rw [hl1, hl2] at hinB hinC
              obtain ⟨bg1, bc1, X2, bg2, bc2, X3, bg3, bc3, X4, eb1, eb2, eb3, bb2, bb3, bb4, bfin⟩ := hinB
              obtain ⟨cg1, cc1, Y2, cg2, cc2, Y3, cg3, cc3, Y4, ec1, ec2, ec3, cb2, cb3, cb4, cfin⟩ := hinC
              replace eb3 := eb3.trans (congrArg (fun n => Result.ok (Value.slice (some ⟨bg3, 0, none⟩) n bc3) X4) eln)
              replace ec3 := ec3.trans (congrArg (fun n => Result.ok (Value.slice (some ⟨cg3, 0, none⟩) n cc3) Y4) eln)
              have hwB : (W.drew.alloc (.cells #[] 24)).alloc (.cells #[x.1.p0, x.1.t0] 24) = ((W.alloc (.cells #[] 24)).alloc (.cells #[x.1.p0, x.1.t0] 24)).drew := rfl
              have hwC : (W.drew.alloc (.cells #[x.1.p0, x.1.t0] 24)).alloc (.cells #[] 24) = ((W.alloc (.cells #[x.1.p0, x.1.t0] 24)).alloc (.cells #[] 24)).drew := rfl
              rw [hwB, hz0] at eb1
              rw [hwC, hz0] at ec1
              rw [hz0] at eb2 ec2
              simp only [VE.p0, VE.t0] at eb1 ec1
              have S0 := Aside0.mk (hSx _ HW.out.drew.below)
              have S1 := Aside0.mk (hSx _ (HW.out.drew.alloc (.cells #[] 24)).below)
              have S2 := Aside0.mk (hSx _ hb2)
              have S3 := Aside0.mk (hSx _ (hb2.alloc hb2.size (.cells #[.slice x.1.A x.1.p.length x.1.c, .string x.1.t] 24)))
              have S4 := Aside0.mk (hSx _ hb3)
              have S5 := Aside0.mk (hSx _ hb4)
              have S6 := Aside0.mk (hSx _ ((HW.out.drew.alloc (.cells #[] 24)).alloc (.cells #[.slice x.1.A x.1.p.length x.1.c, .string x.1.t] 24)).below)
              have S7 := Aside0.mk (hSx _ bb2)
              have S8 := Aside0.mk (hSx _ bb3)
              have S9 := Aside0.mk (hSx _ bb4)
              have S10 := Aside0.mk (hSx _ (HW.out.drew.alloc (.cells #[.slice x.1.A x.1.p.length x.1.c, .string x.1.t] 24)).below)
              have S11 := Aside0.mk (hSx _ ((HW.out.drew.alloc (.cells #[.slice x.1.A x.1.p.length x.1.c, .string x.1.t] 24)).alloc (.cells #[] 24)).below)
              have S12 := Aside0.mk (hSx _ cb2)
              have S13 := Aside0.mk (hSx _ cb3)
              have S14 := Aside0.mk (hSx _ cb4)
              have HFB : Aside0 (St w0 X4 (rVs bg3 bc3 (un (Z.take k ++ x :: Z.drop k)) :: L)) := ⟨by rw [un_app, un_cons]; exact bfin⟩
              have HFC : Aside0 (St w0 Y4 (rVs cg3 cc3 (un (Z.take k ++ x :: Z.drop k)) :: L)) := ⟨by rw [un_app, un_cons]; exact cfin⟩
              have hS2 : Aside0 (Srt (Z.take k ++ x :: Z.drop k)) := ⟨srt_ins (by rw [List.take_append_drop]; exact HS.out) hlow HG.out⟩
              have hP2 : Aside0 ((Z.take k ++ x :: Z.drop k).Perm (T0.take (i + 1))) := ⟨perm_ins (List.take_append_drop k Z).symm HP'.out⟩
              have HF : Aside0 (St w0 W4 (rVs g3 c3 (un (Z.take k ++ x :: Z.drop k)) :: L)) := ⟨by rw [un_app, un_cons]; exact hfin⟩
              have p1 : (0 : Int) ≤ (k : Int) := by omega
              have p2 : (k : Int) ≤ (i : Int) := by omega
              have p3 : (i : Int) ≤ (k : Int) := by omega
              have p4 : (k : Int) ≤ (k : Int) := by omega
              have p5 : (0 : Int) ≤ (i : Int) := by omega
              clear hform hl1 hl2 hSx hw hz0 eln hb2 hb3 hb4 hfin hlow HW HG HP' hwB hwC bb2 bb3 bb4 bfin cb2 cb3 cb4 cfin
              have f1 := AppRun.mk e1
              have f2 := AppRun.mk e2
              have f3 := AppRun.mk e3
              have fb1 := AppRun.mk eb1
              have fb2 := AppRun.mk eb2
              have fb3 := AppRun.mk eb3
              have fc1 := AppRun.mk ec1
              have fc2 := AppRun.mk ec2
              have fc3 := AppRun.mk ec3
              clear e1 e2 e3 eb1 eb2 eb3 ec1 ec2 ec3
              go_wp2_with fail
              go_region_held3 (fun W' => W'.cell? (A.add (i * 2)) = some (.slice x.1.A x.1.p.length x.1.c) ∧ W'.cell? ⟨(A.add (i * 2)).block, (A.add (i * 2)).off + 1, none⟩ = some (.string x.1.t))
                ((first | exact S0.out | exact S1.out | exact S2.out | exact S3.out | exact S4.out | exact S5.out | exact S6.out | exact S7.out | exact S8.out | exact S9.out | exact S10.out | exact S11.out | exact S12.out | exact S13.out | exact S14.out))
                ((first
                  | (refine step_app rfl (.tmp 32) (.tmp 35) rfl rfl f1 rfl rfl ?_)
                  | (refine step_app rfl (.tmp 36) (.tmp 41) rfl rfl f2 rfl rfl ?_)
                  | (refine step_app rfl (.tmp 42) (.tmp 45) rfl rfl f3 rfl rfl ?_)
                  | (refine step_app rfl (.tmp 32) (.tmp 35) rfl rfl fb1 rfl rfl ?_)
                  | (refine step_app rfl (.tmp 36) (.tmp 41) rfl rfl fb2 rfl rfl ?_)
                  | (refine step_app rfl (.tmp 42) (.tmp 45) rfl rfl fb3 rfl rfl ?_)
                  | (refine step_app rfl (.tmp 32) (.tmp 35) rfl rfl fc1 rfl rfl ?_)
                  | (refine step_app rfl (.tmp 36) (.tmp 41) rfl rfl fc2 rfl rfl ?_)
                  | (refine step_app rfl (.tmp 42) (.tmp 45) rfl rfl fc3 rfl rfl ?_)))
              all_goals (
                go_wp2
                go_roundw
                case rel => first | exact ⟨i + 1, g3, c3, _, rfl, by go_num, hiN, hP2, hS2, HF⟩ | exact ⟨i + 1, bg3, bc3, _, rfl, by go_num, hiN, hP2, hS2, HFB⟩ | exact ⟨i + 1, cg3, cc3, _, rfl, by go_num, hiN, hP2, hS2, HFC⟩
                case measure => simp only [RowKit.intOf]; omega)
        · have v1 : decide ((0 : Int) < (k : Int)) = false := decide_eq_false (by omega)
          have v1' : (k : Int) ≤ 0 := by omega
          have hlow : ∀ z ∈ Z.take k, tlt z x := fun z hz => by
            have : k = 0 := by omega
            rw [this] at hz
            simp at hz
          have HLOW := Aside0.mk hlow
          clear hlow
          go_wp2_with fail
          refine wp_region_quiet_below (by kernel_rfl) (by kernel_rfl) ?_
          repeat (
            with_reducible refine wpQuiet_step ?_
            intro KK hK
            go_simp
            with_reducible refine hK _ ?_
            clear hK KK)
          refine wpQuiet_nil ?_
          intro _ hw'
          obtain ⟨⟨dq, osq⟩, hw''⟩ := hw'
          subst hw''
          have HW := Aside0.mk (HI.out.go (below_regrown wr dq osq))
          clear HI
          generalize Sort.grow (redrawn wr dq) osq = W at *
          have hlow := HLOW.out
          clear HLOW
          by_cases hck : ¬ (c = k)
          · as_aux_lemma =>
            have hci : i ≤ c := by
              rcases HW.out.row.2 with ⟨h, _⟩ | ⟨g', cap, cur, e1, _, _, h3, _⟩
              · cases h
              · injection e1 with _ e2 e3
                rw [un_len, HZL.out] at e2
                rw [e3]
                have := HW.out.row.1
                first | omega | (rw [un_len, HZL.out] at h3; omega)
            have hform : St w0 W.drew (rVs g c (un (Z.take k) ++ un (Z.drop k)) :: L) := by rw [← un_app, List.take_append_drop]; exact HW.out.drew
            have hl1 : (un (Z.take k)).length = k := by rw [un_len]; simp; have := HZL.out; omega
            have hl2 : (un (Z.drop k)).length = i - k := by rw [un_len]; simp; have := HZL.out; omega
            have hSx : ∀ W' : World, Below w0.heap.size w0 W' → W'.cell? (A.add (i * 2)) = some (.slice x.1.A x.1.p.length x.1.c) ∧ W'.cell? ⟨(A.add (i * 2)).block, (A.add (i * 2)).off + 1, none⟩ = some (.string x.1.t) := fun W' hb => by
              obtain ⟨h1, h2⟩ := HCX.out
              exact ⟨(hb.cell (World.block_lt_of_cell? w0 _ h1)).trans h1, (hb.cell (World.block_lt_of_cell? w0 _ h2)).trans h2⟩
            have hins := hform.ins3 (x := x.1) (A3 := ⟨g, k * 2, none⟩) (k3 := c - k) (by rw [hl1, hl2]; omega) (.inr (by rw [hl1]))
            rw [hl1, hl2] at hins
            obtain ⟨g1, c1, W2, g2, c2, W3, g3, c3, W4, e1, e2, e3, hb2, hb3, hb4, hfin⟩ := hins
            have hw : W.drew.alloc (.cells #[] 24) = (W.alloc (.cells #[] 24)).drew := rfl
            have hz0 : W.drew.heap.size = W.heap.size := rfl
            rw [hw, hz0] at e1
            have eln : k + 1 + (i - k) = i + 1 := by omega
            replace e3 := e3.trans (congrArg (fun n => Result.ok (Value.slice (some ⟨g3, 0, none⟩) n c3) W4) eln)
            simp only [VE.p0, VE.t0] at e2
            have hinB := hform.preB (x := x.1) |>.ins3R (A3 := ⟨g, k * 2, none⟩) (k3 := c - k) (by rw [hl1, hl2]; omega) (.inr (by rw [hl1]))
            have hinC := hform.preC (x := x.1) |>.ins3R (A3 := ⟨g, k * 2, none⟩) (k3 := c - k) (by rw [hl1, hl2]; omega) (.inr (by rw [hl1]))
            rw [hl1, hl2] at hinB hinC
            obtain ⟨bg1, bc1, X2, bg2, bc2, X3, bg3, bc3, X4, eb1, eb2, eb3, bb2, bb3, bb4, bfin⟩ := hinB
            obtain ⟨cg1, cc1, Y2, cg2, cc2, Y3, cg3, cc3, Y4, ec1, ec2, ec3, cb2, cb3, cb4, cfin⟩ := hinC
            replace eb3 := eb3.trans (congrArg (fun n => Result.ok (Value.slice (some ⟨bg3, 0, none⟩) n bc3) X4) eln)
            replace ec3 := ec3.trans (congrArg (fun n => Result.ok (Value.slice (some ⟨cg3, 0, none⟩) n cc3) Y4) eln)
            have hwB : (W.drew.alloc (.cells #[] 24)).alloc (.cells #[x.1.p0, x.1.t0] 24) = ((W.alloc (.cells #[] 24)).alloc (.cells #[x.1.p0, x.1.t0] 24)).drew := rfl
            have hwC : (W.drew.alloc (.cells #[x.1.p0, x.1.t0] 24)).alloc (.cells #[] 24) = ((W.alloc (.cells #[x.1.p0, x.1.t0] 24)).alloc (.cells #[] 24)).drew := rfl
            rw [hwB, hz0] at eb1
            rw [hwC, hz0] at ec1
            rw [hz0] at eb2 ec2
            simp only [VE.p0, VE.t0] at eb1 ec1
            have S0 := Aside0.mk (hSx _ HW.out.drew.below)
            have S1 := Aside0.mk (hSx _ (HW.out.drew.alloc (.cells #[] 24)).below)
            have S2 := Aside0.mk (hSx _ hb2)
            have S3 := Aside0.mk (hSx _ (hb2.alloc hb2.size (.cells #[.slice x.1.A x.1.p.length x.1.c, .string x.1.t] 24)))
            have S4 := Aside0.mk (hSx _ hb3)
            have S5 := Aside0.mk (hSx _ hb4)
            have S6 := Aside0.mk (hSx _ ((HW.out.drew.alloc (.cells #[] 24)).alloc (.cells #[.slice x.1.A x.1.p.length x.1.c, .string x.1.t] 24)).below)
            have S7 := Aside0.mk (hSx _ bb2)
            have S8 := Aside0.mk (hSx _ bb3)
            have S9 := Aside0.mk (hSx _ bb4)
            have S10 := Aside0.mk (hSx _ (HW.out.drew.alloc (.cells #[.slice x.1.A x.1.p.length x.1.c, .string x.1.t] 24)).below)
            have S11 := Aside0.mk (hSx _ ((HW.out.drew.alloc (.cells #[.slice x.1.A x.1.p.length x.1.c, .string x.1.t] 24)).alloc (.cells #[] 24)).below)
            have S12 := Aside0.mk (hSx _ cb2)
            have S13 := Aside0.mk (hSx _ cb3)
            have S14 := Aside0.mk (hSx _ cb4)
            have HFB : Aside0 (St w0 X4 (rVs bg3 bc3 (un (Z.take k ++ x :: Z.drop k)) :: L)) := ⟨by rw [un_app, un_cons]; exact bfin⟩
            have HFC : Aside0 (St w0 Y4 (rVs cg3 cc3 (un (Z.take k ++ x :: Z.drop k)) :: L)) := ⟨by rw [un_app, un_cons]; exact cfin⟩
            have hS2 : Aside0 (Srt (Z.take k ++ x :: Z.drop k)) := ⟨srt_ins (by rw [List.take_append_drop]; exact HS.out) hlow HG.out⟩
            have hP2 : Aside0 ((Z.take k ++ x :: Z.drop k).Perm (T0.take (i + 1))) := ⟨perm_ins (List.take_append_drop k Z).symm HP'.out⟩
            have HF : Aside0 (St w0 W4 (rVs g3 c3 (un (Z.take k ++ x :: Z.drop k)) :: L)) := ⟨by rw [un_app, un_cons]; exact hfin⟩
            have p1 : (0 : Int) ≤ (k : Int) := by omega
            have p2 : (k : Int) ≤ (i : Int) := by omega
            have p3 : (i : Int) ≤ (c : Int) := by omega
            have p4 : (k : Int) ≤ (c : Int) := by omega
            have p5 : (0 : Int) ≤ (i : Int) := by omega
            clear hform hl1 hl2 hSx hw hz0 eln hb2 hb3 hb4 hfin hlow HW HG HP' hwB hwC bb2 bb3 bb4 bfin cb2 cb3 cb4 cfin
            have f1 := AppRun.mk e1
            have f2 := AppRun.mk e2
            have f3 := AppRun.mk e3
            have fb1 := AppRun.mk eb1
            have fb2 := AppRun.mk eb2
            have fb3 := AppRun.mk eb3
            have fc1 := AppRun.mk ec1
            have fc2 := AppRun.mk ec2
            have fc3 := AppRun.mk ec3
            clear e1 e2 e3 eb1 eb2 eb3 ec1 ec2 ec3
            go_wp2_with fail
            go_region_held3 (fun W' => W'.cell? (A.add (i * 2)) = some (.slice x.1.A x.1.p.length x.1.c) ∧ W'.cell? ⟨(A.add (i * 2)).block, (A.add (i * 2)).off + 1, none⟩ = some (.string x.1.t))
              ((first | exact S0.out | exact S1.out | exact S2.out | exact S3.out | exact S4.out | exact S5.out | exact S6.out | exact S7.out | exact S8.out | exact S9.out | exact S10.out | exact S11.out | exact S12.out | exact S13.out | exact S14.out))
              ((first
                | (refine step_app rfl (.tmp 32) (.tmp 35) rfl rfl f1 rfl rfl ?_)
                | (refine step_app rfl (.tmp 36) (.tmp 41) rfl rfl f2 rfl rfl ?_)
                | (refine step_app rfl (.tmp 42) (.tmp 45) rfl rfl f3 rfl rfl ?_)
                | (refine step_app rfl (.tmp 32) (.tmp 35) rfl rfl fb1 rfl rfl ?_)
                | (refine step_app rfl (.tmp 36) (.tmp 41) rfl rfl fb2 rfl rfl ?_)
                | (refine step_app rfl (.tmp 42) (.tmp 45) rfl rfl fb3 rfl rfl ?_)
                | (refine step_app rfl (.tmp 32) (.tmp 35) rfl rfl fc1 rfl rfl ?_)
                | (refine step_app rfl (.tmp 36) (.tmp 41) rfl rfl fc2 rfl rfl ?_)
                | (refine step_app rfl (.tmp 42) (.tmp 45) rfl rfl fc3 rfl rfl ?_)))
            all_goals (
              go_wp2
              go_roundw
              case rel => first | exact ⟨i + 1, g3, c3, _, rfl, by go_num, hiN, hP2, hS2, HF⟩ | exact ⟨i + 1, bg3, bc3, _, rfl, by go_num, hiN, hP2, hS2, HFB⟩ | exact ⟨i + 1, cg3, cc3, _, rfl, by go_num, hiN, hP2, hS2, HFC⟩
              case measure => simp only [RowKit.intOf]; omega)
          · as_aux_lemma =>
            have hck' : k = c := by omega
            subst hck'
            clear hck
            have hci : i ≤ k := by
              rcases HW.out.row.2 with ⟨h, _⟩ | ⟨g', cap, cur, e1, _, _, h3, _⟩
              · cases h
              · injection e1 with _ e2 e3
                rw [un_len, HZL.out] at e2
                rw [e3]
                have := HW.out.row.1
                first | omega | (rw [un_len, HZL.out] at h3; omega)
            have hform : St w0 W.drew (rVs g k (un (Z.take k) ++ un (Z.drop k)) :: L) := by rw [← un_app, List.take_append_drop]; exact HW.out.drew
            have hl1 : (un (Z.take k)).length = k := by rw [un_len]; simp; have := HZL.out; omega
            have hl2 : (un (Z.drop k)).length = 0 := by rw [un_len]; simp; have := HZL.out; omega
            have hSx : ∀ W' : World, Below w0.heap.size w0 W' → W'.cell? (A.add (i * 2)) = some (.slice x.1.A x.1.p.length x.1.c) ∧ W'.cell? ⟨(A.add (i * 2)).block, (A.add (i * 2)).off + 1, none⟩ = some (.string x.1.t) := fun W' hb => by
              obtain ⟨h1, h2⟩ := HCX.out
              exact ⟨(hb.cell (World.block_lt_of_cell? w0 _ h1)).trans h1, (hb.cell (World.block_lt_of_cell? w0 _ h2)).trans h2⟩
            have hins := hform.ins3 (x := x.1) (A3 := ⟨g, 0, none⟩) (k3 := 0) (by rw [hl1, hl2]; omega) (.inl (by have : Z.drop k = [] := List.drop_of_length_le (by rw [HZL.out]; omega); rw [this]; rfl))
            rw [hl1, hl2] at hins
            obtain ⟨g1, c1, W2, g2, c2, W3, g3, c3, W4, e1, e2, e3, hb2, hb3, hb4, hfin⟩ := hins
            have hw : W.drew.alloc (.cells #[] 24) = (W.alloc (.cells #[] 24)).drew := rfl
            have hz0 : W.drew.heap.size = W.heap.size := rfl
            rw [hw, hz0] at e1
            have eln : k + 1 + (0) = i + 1 := by omega
            replace e3 := e3.trans (congrArg (fun n => Result.ok (Value.slice (some ⟨g3, 0, none⟩) n c3) W4) eln)
            simp only [VE.p0, VE.t0] at e2
            have hinB := hform.preB (x := x.1) |>.ins3R (A3 := ⟨g, 0, none⟩) (k3 := 0) (by rw [hl1, hl2]; omega) (.inl (by have : Z.drop k = [] := List.drop_of_length_le (by rw [HZL.out]; omega); rw [this]; rfl))
            have hinC := hform.preC (x := x.1) |>.ins3R (A3 := ⟨g, 0, none⟩) (k3 := 0) (by rw [hl1, hl2]; omega) (.inl (by have : Z.drop k = [] := List.drop_of_length_le (by rw [HZL.out]; omega); rw [this]; rfl))
            rw [hl1, hl2] at hinB hinC
            obtain ⟨bg1, bc1, X2, bg2, bc2, X3, bg3, bc3, X4, eb1, eb2, eb3, bb2, bb3, bb4, bfin⟩ := hinB
            obtain ⟨cg1, cc1, Y2, cg2, cc2, Y3, cg3, cc3, Y4, ec1, ec2, ec3, cb2, cb3, cb4, cfin⟩ := hinC
            replace eb3 := eb3.trans (congrArg (fun n => Result.ok (Value.slice (some ⟨bg3, 0, none⟩) n bc3) X4) eln)
            replace ec3 := ec3.trans (congrArg (fun n => Result.ok (Value.slice (some ⟨cg3, 0, none⟩) n cc3) Y4) eln)
            have hwB : (W.drew.alloc (.cells #[] 24)).alloc (.cells #[x.1.p0, x.1.t0] 24) = ((W.alloc (.cells #[] 24)).alloc (.cells #[x.1.p0, x.1.t0] 24)).drew := rfl
            have hwC : (W.drew.alloc (.cells #[x.1.p0, x.1.t0] 24)).alloc (.cells #[] 24) = ((W.alloc (.cells #[x.1.p0, x.1.t0] 24)).alloc (.cells #[] 24)).drew := rfl
            rw [hwB, hz0] at eb1
            rw [hwC, hz0] at ec1
            rw [hz0] at eb2 ec2
            simp only [VE.p0, VE.t0] at eb1 ec1
            have S0 := Aside0.mk (hSx _ HW.out.drew.below)
            have S1 := Aside0.mk (hSx _ (HW.out.drew.alloc (.cells #[] 24)).below)
            have S2 := Aside0.mk (hSx _ hb2)
            have S3 := Aside0.mk (hSx _ (hb2.alloc hb2.size (.cells #[.slice x.1.A x.1.p.length x.1.c, .string x.1.t] 24)))
            have S4 := Aside0.mk (hSx _ hb3)
            have S5 := Aside0.mk (hSx _ hb4)
            have S6 := Aside0.mk (hSx _ ((HW.out.drew.alloc (.cells #[] 24)).alloc (.cells #[.slice x.1.A x.1.p.length x.1.c, .string x.1.t] 24)).below)
            have S7 := Aside0.mk (hSx _ bb2)
            have S8 := Aside0.mk (hSx _ bb3)
            have S9 := Aside0.mk (hSx _ bb4)
            have S10 := Aside0.mk (hSx _ (HW.out.drew.alloc (.cells #[.slice x.1.A x.1.p.length x.1.c, .string x.1.t] 24)).below)
            have S11 := Aside0.mk (hSx _ ((HW.out.drew.alloc (.cells #[.slice x.1.A x.1.p.length x.1.c, .string x.1.t] 24)).alloc (.cells #[] 24)).below)
            have S12 := Aside0.mk (hSx _ cb2)
            have S13 := Aside0.mk (hSx _ cb3)
            have S14 := Aside0.mk (hSx _ cb4)
            have HFB : Aside0 (St w0 X4 (rVs bg3 bc3 (un (Z.take k ++ x :: Z.drop k)) :: L)) := ⟨by rw [un_app, un_cons]; exact bfin⟩
            have HFC : Aside0 (St w0 Y4 (rVs cg3 cc3 (un (Z.take k ++ x :: Z.drop k)) :: L)) := ⟨by rw [un_app, un_cons]; exact cfin⟩
            have hS2 : Aside0 (Srt (Z.take k ++ x :: Z.drop k)) := ⟨srt_ins (by rw [List.take_append_drop]; exact HS.out) hlow HG.out⟩
            have hP2 : Aside0 ((Z.take k ++ x :: Z.drop k).Perm (T0.take (i + 1))) := ⟨perm_ins (List.take_append_drop k Z).symm HP'.out⟩
            have HF : Aside0 (St w0 W4 (rVs g3 c3 (un (Z.take k ++ x :: Z.drop k)) :: L)) := ⟨by rw [un_app, un_cons]; exact hfin⟩
            have p1 : (0 : Int) ≤ (k : Int) := by omega
            have p2 : (k : Int) ≤ (i : Int) := by omega
            have p3 : (i : Int) ≤ (k : Int) := by omega
            have p4 : (k : Int) ≤ (k : Int) := by omega
            have p5 : (0 : Int) ≤ (i : Int) := by omega
            clear hform hl1 hl2 hSx hw hz0 eln hb2 hb3 hb4 hfin hlow HW HG HP' hwB hwC bb2 bb3 bb4 bfin cb2 cb3 cb4 cfin
            have f1 := AppRun.mk e1
            have f2 := AppRun.mk e2
            have f3 := AppRun.mk e3
            have fb1 := AppRun.mk eb1
            have fb2 := AppRun.mk eb2
            have fb3 := AppRun.mk eb3
            have fc1 := AppRun.mk ec1
            have fc2 := AppRun.mk ec2
            have fc3 := AppRun.mk ec3
            clear e1 e2 e3 eb1 eb2 eb3 ec1 ec2 ec3
            go_wp2_with fail
            go_region_held3 (fun W' => W'.cell? (A.add (i * 2)) = some (.slice x.1.A x.1.p.length x.1.c) ∧ W'.cell? ⟨(A.add (i * 2)).block, (A.add (i * 2)).off + 1, none⟩ = some (.string x.1.t))
              ((first | exact S0.out | exact S1.out | exact S2.out | exact S3.out | exact S4.out | exact S5.out | exact S6.out | exact S7.out | exact S8.out | exact S9.out | exact S10.out | exact S11.out | exact S12.out | exact S13.out | exact S14.out))
              ((first
                | (refine step_app rfl (.tmp 32) (.tmp 35) rfl rfl f1 rfl rfl ?_)
                | (refine step_app rfl (.tmp 36) (.tmp 41) rfl rfl f2 rfl rfl ?_)
                | (refine step_app rfl (.tmp 42) (.tmp 45) rfl rfl f3 rfl rfl ?_)
                | (refine step_app rfl (.tmp 32) (.tmp 35) rfl rfl fb1 rfl rfl ?_)
                | (refine step_app rfl (.tmp 36) (.tmp 41) rfl rfl fb2 rfl rfl ?_)
                | (refine step_app rfl (.tmp 42) (.tmp 45) rfl rfl fb3 rfl rfl ?_)
                | (refine step_app rfl (.tmp 32) (.tmp 35) rfl rfl fc1 rfl rfl ?_)
                | (refine step_app rfl (.tmp 36) (.tmp 41) rfl rfl fc2 rfl rfl ?_)
                | (refine step_app rfl (.tmp 42) (.tmp 45) rfl rfl fc3 rfl rfl ?_)))
            all_goals (
              go_wp2
              go_roundw
              case rel => first | exact ⟨i + 1, g3, c3, _, rfl, by go_num, hiN, hP2, hS2, HF⟩ | exact ⟨i + 1, bg3, bc3, _, rfl, by go_num, hiN, hP2, hS2, HFB⟩ | exact ⟨i + 1, cg3, cc3, _, rfl, by go_num, hiN, hP2, hS2, HFC⟩
              case measure => simp only [RowKit.intOf]; omega)
    · have hie : i = N := by omega
      subst hie
      have t1 : decide ((i : Int) < (i : Int)) = false := decide_eq_false (by omega)
      have hfin : Aside0 (Z.Perm T0 ∧ Srt Z ∧ St w0 wr (rVs g c (un Z) :: L)) := ⟨by
        have h := HP.out
        rw [List.take_of_length_le (by rw [HN.out]; omega)] at h
        exact ⟨h, HS.out, HI.out⟩⟩
      clear HP HS HI
      go_wp2
      go_ret
      exact ⟨g, c, Z, rfl, hfin.out⟩
end
end Go.Proofs.YtbikimkmkchkhaaDoor
