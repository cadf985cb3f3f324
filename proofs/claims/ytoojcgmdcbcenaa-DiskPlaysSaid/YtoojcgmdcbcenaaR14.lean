/- The reference's Write, walked. -/
import Derived.Test.YtoojcgmdcbcenaaRB
import Derived.Deep.RegionLaw
namespace Go.Proofs.Ytoojcgmdcbcenaa
open Go.RowKit Go.Maps Go.Proofs.YtoojcgmdcbcenaaW.PrintWords
attribute [local go_sem ↓] Go.wp_at_zero Go.wp_at_succ
set_option linter.unusedVariables false
set_option linter.unusedSimpArgs false
set_option maxRecDepth 100000

/-- append at a step of a region that draws its order, by its run. -/
theorem step_app_run {P : Program} {w : World} {ops : Array Oper} {o : Oper} {a : Act} {K : Act → World → Prop} {Q : Exit → Act → World → Prop} {E : Prop} {t : TypeId} (hgd : o.guard = none) (s x : Operand)
    (ho : o.op = .call { callee := .builtin .append, args := #[s, x], argTypes := #[t, t] }) (v u : Value) (hs : a.eval s = v) (hx : a.eval x = u) {v' : Value} {w' : World} (hrun : (Builtin.append_ #[t, t] o.type #[v, u]).run P w = .ok v' w')
    (h : K (a.put o.dst v') w') : if Region.wanted o (yielded ops a.tmps) = true then Oper.wp P o a w K Q else E := by
  have hw : Region.wanted o (yielded ops a.tmps) = true := by simp [Region.wanted, hgd]
  rw [if_pos hw]
  unfold Oper.wp execOp
  simp only [ho, resolve, invoke, builtin, Sem.run_bind, Sem.run_pure, Result.andThen_ok, List.map_toArray, List.map_cons, List.map_nil, hs, hx, hrun]
  exact h
section
variable {w0 w : World} {q : Nat} {d : Dsk} {L : List Res}
set_option maxHeartbeats 20000000 in
theorem St.rWrite {B : Res} {ad : Addr} {b : Sec} {n c : Nat} (H : St w0 w (rRef q d :: B :: L)) (hB : ∀ {w : World} {T S : Foot}, B.has w T S → Rd w (some ad) b) (ht : d.taken < 1000000) (hby : ∀ x ∈ b, 0 ≤ x ∧ x ≤ 255) (hn : b.length = n) (i : Int) :
    Calls Try.prog 30 #[.pointer (some ⟨q, 0, none⟩), .int .i64 i, .slice (some ad) n c] w fun e w' => e = .returned (.int .i64 (d.write i b).1) ∧ St w0 w' (rRef q (d.write i b).2 :: B :: L) := by
  have htk := H.rTake (by unfold maxTaken; omega)
  have hok := H.refOk
  have hokw := hok.write hby i
  obtain ⟨u, us, HR⟩ := H.ref
  have hR := HR.refIs
  have hvn := hok.n2
  obtain ⟨c0, c1, c2, c3, fz⟩ := hR.cells
  obtain ⟨og, oc, rfl⟩ := hR.form
  by_cases h1 : i < 0
  · have e : d.write i b = (2, d) := by simp only [Dsk.write, if_pos (Or.inl h1 : i < 0 ∨ (d.vals.length : Int) ≤ i)]
    have b1 : decide (i < 0) = true := decide_eq_true h1
    rw [e]
    have HH := Aside0.mk H
    clear H HR hR fz htk hok hokw hn hvn e
    go_enter Try.func30, Try.ntmps30
    go_wp2
    go_ret
    exact ⟨rfl, HH.out⟩
  · have b1 : decide (i < 0) = false := decide_eq_false h1
    by_cases h2 : (d.vals.length : Int) ≤ i
    · have e : d.write i b = (2, d) := by simp only [Dsk.write, if_pos (Or.inr h2 : i < 0 ∨ (d.vals.length : Int) ≤ i)]
      have b2 : decide ((d.vals.length : Int) ≤ i) = true := decide_eq_true h2
      rw [e]
      have HH := Aside0.mk H
      clear H HR hR fz htk hok hokw hn hvn e
      go_enter Try.func30, Try.ntmps30
      go_wp2
      go_ret
      exact ⟨rfl, HH.out⟩
    · obtain ⟨j, rfl⟩ : ∃ j : Nat, i = j := ⟨i.toNat, by omega⟩
      have hj : j < d.vals.length := by omega
      have b2 : decide ((d.vals.length : Int) ≤ (j : Int)) = false := decide_eq_false (by omega)
      have b2n : decide (d.vals.length ≤ j) = false := decide_eq_false (by omega)
      have h12 : ¬ ((j : Int) < 0 ∨ (d.vals.length : Int) ≤ (j : Int)) := by omega
      by_cases h3 : n ≠ 256
      · have e : d.write j b = (2, d) := by simp only [Dsk.write, if_neg h12, if_pos (show b.length ≠ 256 by omega)]
        have hq : (((n : Nat) : Int) == 256) = false := by simpa using (by omega : ((n : Nat) : Int) ≠ 256)
        rw [e]
        have HH := Aside0.mk H
        clear H HR hR fz htk hok hokw hn hvn e h12 h2 h1 h3
        go_enter Try.func30, Try.ntmps30
        go_wp2
        go_ret
        exact ⟨rfl, HH.out⟩
      · have h4 : n = 256 := by omega
        subst h4
        cases htb : d.take.1 with
        | false =>
          have e : d.write j b = (10, d.take.2) := by simp only [Dsk.write, if_neg h12, if_neg (show ¬ b.length ≠ 256 by omega), htb, Bool.false_eq_true, if_false]
          rw [htb] at htk
          rw [e]
          have HTK := Aside0.mk htk
          clear H HR hR fz htk hok hokw hn hvn e h12 h2 h1 h3
          go_enter Try.func30, Try.ntmps30
          go_wp2_with fail
          refine HTK.out.mono ?_
          rintro e w2 ⟨rfl, H2⟩
          have HH := Aside0.mk H2
          clear H2
          go_wp2
          go_ret
          exact ⟨rfl, HH.out⟩
        | true =>
          have e : d.write j b = (0, d.take.2.put j b) := by simp only [Dsk.write, if_neg h12, if_neg (show ¬ b.length ≠ 256 by omega), htb, if_true, Int.toNat_natCast]
          obtain ⟨ev, et⟩ := Dsk.take_true htb
          have hmn := hok.many _ (hok.get hj)
          rw [htb] at htk
          rw [e] at hokw ⊢
          rw [← ev] at hj hvn hmn
          generalize d.take.2 = d1 at *
          have hF := fun w1 (H1 : St w0 w1 (rRef q d1 :: B :: L)) => St.rPutF (c := c) H1 hB hj hn hokw (by omega)
          have HTK := Aside0.mk htk
          have HFF := Aside0.mk hF
          rw [← ev] at b2 b2n c0
          obtain ⟨V, hV⟩ : ∃ V, V = d1.vals.length := ⟨_, rfl⟩
          have HV := Aside0.mk hV
          rw [← hV] at b2 b2n c0
          have u1 : (0 : Int) ≤ (j : Int) := by omega
          have u2 : (j : Int) < (V : Int) := by omega
          clear H HR hR fz htk hok hokw hn hvn hmn e h12 h2 h1 h3 hF hV ev et hj
          go_enter Try.func30, Try.ntmps30
          go_wp2_with fail
          refine HTK.out.mono ?_
          rintro e W1 ⟨rfl, H1⟩
          have hf := HFF.out _ H1.drew
          clear HFF HTK H1 c0 c1 c2 c3
          rw [← HV.out] at hf
          generalize (d1.vals.getD j []).length = N at *
          obtain ⟨og, oc, A, cc, v1, W2, k0, k1, b0, b1', hrun1, d0, hcall⟩ := hf
          have hw : W1.drew.alloc (.cells #[] 31) = (W1.alloc (.cells #[] 31)).drew := rfl
          have hz : W1.drew.heap.size = W1.heap.size := rfl
          rw [hw, hz] at hrun1
          rw [hw] at b0 b1'
          clear hw hz
          have HC := Aside0.mk hcall
          clear hcall
          replace k0 : W1.cell? ⟨q, 0, none⟩ = some (.slice (some ⟨og, 0, none⟩) V oc) := k0
          replace k1 : W1.cell? ⟨og, j, none⟩ = some (.slice (some ⟨A, 0, none⟩) N cc) := k1
          replace b1' : (W1.alloc (.cells #[] 31)).cell? ⟨og, j, none⟩ = some (.slice (some ⟨A, 0, none⟩) N cc) := b1'
          go_wp2_with fail
          replace b0 : (W1.alloc (.cells #[] 31)).cell? ⟨q, 0, none⟩ = some (.slice (some ⟨og, 0, none⟩) V oc) := b0
          go_region_law (first
            | (refine step_app_run rfl _ _ rfl _ _ rfl rfl hrun1 ?_)
            | (refine step_app_run rfl _ _ rfl _ _ rfl rfl hrun2 ?_)
            | (go_simp; go_at_call 50; refine HC.out.mono ?_; rintro e W3 ⟨bb, c', A2, n2, c2', W4, U, rfl, s4, s5, hrun2, s6, m1, m2, s7, hfin⟩; have hfin := Aside0.mk hfin))
          all_goals (go_wp2; go_ret; exact ⟨rfl, hfin.out⟩)
end
end Go.Proofs.Ytoojcgmdcbcenaa
