/- Texts of this claim, one behind the other: R. -/
import Derived.Lib.MakeNoZero
import Derived.Test.YteblbggmchcijaaDoorMA6
section
/- bytes.Repeat of one byte. -/
namespace Go.Proofs.YteblbggmchcijaaDoor
open Go.RowKit Go.Lib Go.Proofs.YteblbggmchcijaaDoorW.PrintWords Go.Proofs.YteblbggmchcijaaDoorW.PrintLast Go.Proofs.YteblbggmchcijaaDoorW.PrintMore
attribute [local go_sem] Oper.semAt_some
attribute [local go_sem] max2_int min2_int max_two min_two max_three min_three max_four min_four
set_option linter.unusedVariables false
set_option linter.unusedSimpArgs false

/-- A copy out of the buffer's own head behind what is filled. -/
theorem copy_self (w0 wr : World) (h N : Nat) (acc : List UInt8) (c q cp : Nat) (t ty e : TypeId) (hu : Tryd.prog.underlying t = some (.slice e)) (hs : (Tryd.prog.info? e).map (·.size) = some 1) (hb : Lib.Buf w0 wr h N acc) (hc : q ≤ acc.length) (hfit : acc.length < N) (hq : q = Nat.min c (N - acc.length)) :
    ∃ wr', (Builtin.copy_ #[t, t] ty #[Lib.tailV h N acc.length, .slice (some ⟨h, 0, none⟩) c cp]).run Tryd.prog wr = .ok (.int .i64 (q : Int)) wr' ∧ Lib.Buf w0 wr' h N (acc ++ acc.take q) := by
  have hne : ¬ N = acc.length := by omega
  have hqN : q ≤ N - acc.length := by rw [hq]; exact Nat.min_le_right _ _
  have hcN : acc.length + q ≤ N := by omega
  have hlen : ((acc.take q).map fun x => Value.int .u8 (x.toNat : Int)).length = q := by rw [List.length_map, List.length_take]; omega
  have hr := run_copy_cells (P := Tryd.prog) wr t t ty e h acc.length (N - acc.length) (N - acc.length) ⟨h, 0, none⟩ c cp ((acc.take q).map fun x => Value.int .u8 (x.toNat : Int)) hu hs (by rw [hlen]; exact hq)
    (fun j u hj => by
      rw [List.getElem?_map] at hj
      obtain ⟨x, hx, rfl⟩ := Option.map_eq_some_iff.1 hj
      have hjc : j < q := by have := (List.getElem?_eq_some_iff.1 hx).1; rw [List.length_take] at this; omega
      rw [List.getElem?_take] at hx
      rw [if_pos hjc] at hx
      have := hb.holds j x hx
      simpa [Addr.add_lit] using this)
    (fun j hj => by rw [hlen] at hj; exact hb.there _ (by omega)) (fun j hj => by rw [hlen] at hj; exact hb.free _ (by omega))
    (fun u hu' => by obtain ⟨x, _, rfl⟩ := List.mem_map.1 hu'; rfl)
  rw [hlen] at hr
  refine ⟨_, by unfold Lib.tailV; rw [if_neg hne]; exact hr, ?_⟩
  have hin := World.cell?_setCells_in h ((acc.take q).map fun x => Value.int .u8 (x.toNat : Int)) acc.length wr (fun j hj => by rw [hlen] at hj; exact hb.there _ (by omega))
  have hout := World.cell?_setCells_out h ((acc.take q).map fun x => Value.int .u8 (x.toNat : Int)) acc.length wr
  have htl : (acc.take q).length = q := by rw [List.length_take]; omega
  refine ⟨Lib.below_setCells h (Nat.le_refl _) _ _ hb.below, ?_, ?_, ?_, by rw [List.length_append, htl]; exact hcN⟩
  · intro j hj
    by_cases h1 : acc.length ≤ j ∧ j < acc.length + q
    · obtain ⟨d, rfl⟩ : ∃ d, j = acc.length + d := ⟨j - acc.length, by omega⟩
      rw [hin d (by rw [hlen]; omega)]
      rfl
    · rw [hout ⟨h, j, none⟩ (fun _ _ => by rw [hlen]; show j < _ ∨ _ ≤ j; omega)]
      exact hb.there j hj
  · intro j hj
    rw [World.frozen?_setCells]
    exact hb.free j hj
  · intro j x hx
    by_cases h1 : j < acc.length
    · rw [List.getElem?_append_left h1] at hx
      rw [hout ⟨h, j, none⟩ (fun _ _ => Or.inl h1)]
      exact hb.holds j x hx
    · rw [List.getElem?_append_right (by omega)] at hx
      obtain ⟨d, rfl⟩ : ∃ d, j = acc.length + d := ⟨j - acc.length, by omega⟩
      rw [Nat.add_sub_cancel_left] at hx
      have hd : d < (acc.take q).length := (List.getElem?_eq_some_iff.1 hx).1
      rw [hin d (by rw [hlen]; omega)]
      simp only [List.getElem_map, (List.getElem?_eq_some_iff.1 hx).2]
theorem step_copy_run {ops : Array Oper} {o : Oper} {a : Act} {w : World} {K : Act → World → Prop} {Q : Exit → Act → World → Prop} {E : Prop} (hgd : o.guard = none) (d s : Operand) (t t' : TypeId)
    (ho : o.op = .call { callee := .builtin .copy, args := #[d, s], argTypes := #[t, t'] }) (v u : Value) (hd : a.eval d = v) (hs : a.eval s = u) {v' : Value} {w' : World}
    (hr : (Builtin.copy_ #[t, t'] o.type #[v, u]).run Tryd.prog w = .ok v' w') (h : K (a.put o.dst v') w') : if Region.wanted o (yielded ops a.tmps) = true then Oper.wp Tryd.prog o a w K Q else E := by
  rw [if_pos (by simp [Region.wanted, hgd])]
  exact Lib.wp_copy_run w d s t t' ho v u hd hs hr h

theorem _root_.Go.Lib.Buf.from_ {w wr : World} {m h N : Nat} {acc : List UInt8} (hb : Lib.Buf (w.drewN m) wr h N acc) : Lib.Buf w wr h N acc :=
  ⟨(pw_below_drewN (Below.refl h w) m).trans hb.below, hb.there, hb.free, hb.holds, hb.fits⟩
set_option maxHeartbeats 4000000 in
theorem repeat_calls (x : UInt8) (n g : Nat) (w : World) (hg : w.cell? ⟨g, 0, none⟩ = some (.int .u8 (x.toNat : Int))) (h1 : 1 ≤ n) (h2 : n ≤ 100)
    (hMul : ∀ W, Calls Tryd.prog 55 #[.int .u64 1, .int .u64 (n : Int)] W fun e w' => e = .returned (.tuple #[.int .u64 0, .int .u64 (n : Int)]) ∧ Drawn0 W w') :
    Calls Tryd.prog 48 #[.slice (some ⟨g, 0, none⟩) 1 1, .int .i64 (n : Int)] w fun e w' => ∃ h, e = .returned (.slice (some ⟨h, 0, none⟩) n n) ∧ w.heap.size ≤ h ∧ Lib.Buf w w' h n (List.replicate n x) := by
  have HG := Aside0.mk hg
  clear hg
  go_enter Tryd.func48, Tryd.ntmps48
  go_wp2_with fail
  refine (hMul _).mono ?_
  rintro e w1 ⟨rfl, ⟨m, rfl⟩⟩
  have hs5 : (Tryd.prog.info? 5).map (·.size) = some 1 := by kernel_rfl
  obtain ⟨cs, hrunM, hle, _⟩ := Lib.run_makeNoZero (P := Tryd.prog) (w.drewN m) #[3] 22 5 Tryd.underlying22 n (by omega)
  have hcall : (callFunc 56 #[.int .i64 (n : Int)]).run Tryd.prog (w.drewN m) = .ok (.value (.slice (some ⟨w.heap.size, 0, none⟩) n cs.size)) (((w.drewN m).alloc (.cells cs 5)).drewN 2) := by
    rw [run_callFunc_extern Tryd.func56 (by kernel_rfl) (by kernel_rfl) (by kernel_rfl) (e := Extern.BytealgMakeNoZero.makeNoZero #[3] #[22]) (by kernel_rfl), hrunM]
    rfl
  clear hrunM
  have i0 : (0 : Int) ≤ (n : Int) := by omega
  have i1 : (n : Int) ≤ (cs.size : Int) := by omega
  have B0 := (Lib.Buf.start (w.drewN m) cs 5 n 2 hle).from_
  have hh : Lib.HoldsBytes w (.slice (some ⟨g, 0, none⟩) 1 1) [x] := by
    refine ⟨some ⟨g, 0, none⟩, 1, rfl, (fun h => nomatch h), fun a ha j y hy => ?_⟩
    injection ha with ha
    subst ha
    have hj : j = 0 := by have := (List.getElem?_eq_some_iff.1 hy).1; simp at this; omega
    subst hj
    have : x = y := by simpa using hy
    subst this
    simpa [Addr.add_lit] using HG.out
  obtain ⟨w1, hr1, B1⟩ := Lib.copy_part (P := Tryd.prog) w _ w.heap.size n [] [x] (.slice (some ⟨g, 0, none⟩) 1 1) 22 3 5 Tryd.underlying22 hs5 (Nat.le_refl _) B0 hh (by simp; omega)
  rw [List.length_nil, Lib.tailV_zero] at hr1
  rw [List.nil_append] at B1
  have HB1 := Aside0.mk B1
  clear B0 B1
  go_wp2_with (at_builtin; refine Lib.wpList_copy_run _ rfl _ _ 22 22 rfl _ _ rfl rfl hr1 ?_)
  clear hr1 hcall hh
  go_loopw [10] (fun b W => ∃ L : Nat, b = .int .i64 (L : Int) ∧ 1 ≤ L ∧ L ≤ n ∧ Aside0 (Lib.Buf w W w.heap.size n (List.replicate L x))) (fun b _ => n - (RowKit.intOf b).toNat)
  case atStart => exact ⟨1, rfl, by omega, h1, HB1⟩
  case round =>
    clear HB1
    obtain ⟨L, rfl, hL1, hLn, HB⟩ := hrel
    by_cases hlt : L < n
    · have t1 : decide ((L : Int) < (n : Int)) = true := decide_eq_true (by omega)
      have z5 : ∀ w, (Go.sizeOf 5).run Tryd.prog w = .ok 1 w := by
        intro w
        cases hq : Tryd.prog.info? 5 with
        | none => rw [hq] at hs5; cases hs5
        | some i => rw [hq] at hs5; simp at hs5; simp [sizeOf, typeInfo, hq, hs5]
      have hsl1 : ∀ W, (Instr.slice 22 (.slice (some ⟨w.heap.size, 0, none⟩) n n) (some (.int .i64 (L : Int))) none none).run Tryd.prog W = .ok (Lib.tailV w.heap.size n L) W := fun W => Lib.run_slice_tailV W 22 5 Tryd.underlying22 z5 _ n L (by omega)
      obtain ⟨q, hq⟩ : ∃ q, q = Nat.min L (n - L) := ⟨_, rfl⟩
      have hq1 : q ≤ L := by rw [hq]; exact Nat.min_le_left _ _
      have hq2 : q ≤ n - L := by rw [hq]; exact Nat.min_le_right _ _
      have hq3 : 1 ≤ q := by rw [hq]; exact Nat.le_min.2 ⟨hL1, by omega⟩
      have hlr : (List.replicate L x).length = L := List.length_replicate
      have hrep : List.replicate L x ++ (List.replicate L x).take q = List.replicate (L + q) x := by
        rw [List.take_replicate, Nat.min_eq_left hq1, List.replicate_append_replicate]
      have HCP : Aside0 (∀ W, W = wr ∨ W = wr.drew → ∃ w2, (Builtin.copy_ #[22, 22] 3 #[Lib.tailV w.heap.size n L, .slice (some ⟨w.heap.size, 0, none⟩) L n]).run Tryd.prog W = .ok (.int .i64 (q : Int)) w2 ∧ Lib.Buf w w2 w.heap.size n (List.replicate (L + q) x)) := Aside0.mk (fun W hW => by
        have hbW : Lib.Buf w W w.heap.size n (List.replicate L x) := by
          rcases hW with rfl | rfl
          · exact HB.out
          · exact ⟨below_drew1 HB.out.below, HB.out.there, HB.out.free, HB.out.holds, HB.out.fits⟩
        obtain ⟨w2, hr2, B2⟩ := copy_self w W w.heap.size n (List.replicate L x) L q n 22 3 5 Tryd.underlying22 hs5 hbW (by rw [hlr]; exact hq1) (by rw [hlr]; exact hlt) (by rw [hlr]; exact hq)
        rw [hlr] at hr2
        rw [hrep] at B2
        exact ⟨w2, hr2, B2⟩)
      clear hrep hlr hq
      obtain ⟨w2, hr2, B2⟩ := HCP.out wr (.inl rfl)
      obtain ⟨w3, hr3, B3⟩ := HCP.out wr.drew (.inr rfl)
      have HB2 := Aside0.mk B2
      have HB3 := Aside0.mk B3
      have HR2 := Aside0.mk hr2
      have HR3 := Aside0.mk hr3
      clear B2 B3 hr2 hr3
      have mixed : Tryd.prog.follows .mixedOrders = true := by kernel_rfl
      have j0 : (0 : Int) ≤ (L : Int) := by omega
      have j1 : (L : Int) ≤ (n : Int) := by omega
      go_wp2_with fail
      go_region_law_o (refine step_copy_run rfl (.tmp 70) (.tmp 73) 22 22 rfl (Lib.tailV w.heap.size n L) (.slice (some ⟨w.heap.size, 0, none⟩) L n) (by simp [Act.eval, Act.put]) (by simp [Act.eval, Act.put]) (by first | exact HR2.out | exact HR3.out) ?_)
      all_goals
        simp only [Act.put, List.getElem_toArray, List.getElem_cons_succ, List.getElem_cons_zero, List.setIfInBounds_toArray, List.set_cons_zero, List.set_cons_succ]
        go_wp2
        have hwr : IntKind.i64.wrap ((L : Int) + (q : Int)) = ((L + q : Nat) : Int) := by rw [IntKind.wrap_i64]; omega
        rw [hwr]
        exact ⟨⟨L + q, rfl, by omega, by omega, by first | exact HB2 | exact HB3⟩, by simp [RowKit.intOf]; omega⟩
    · have hkl : L = n := by omega
      subst hkl
      go_wp2
      go_ret
      exact ⟨_, rfl, Nat.le_refl _, HB.out⟩
end Go.Proofs.YteblbggmchcijaaDoor
end
