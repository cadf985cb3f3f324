/- Texts of this claim, one behind the other: G11. -/
import Derived.Test.YtfhdiddlloiglaaDoorMA15
import Derived.Test.YtfhdiddlloiglaaDoorMA16
section
/- Whether one of the homes is out. -/
namespace Go.Proofs.YtfhdiddlloiglaaDoor
open Go.RowKit Go.Proofs.YtfhdiddlloiglaaDoorW.PrintWords Go.Lib Go.Shelf
attribute [local go_sem ↓] Go.wp_at_zero Go.wp_at_succ
set_option linter.unusedVariables false
set_option linter.unusedSimpArgs false
set_option maxRecDepth 100000

section
variable {w0 w : World} {p b1 b2 b3 : Nat} {d : Dsk} {L : List Res}
def outB (m : Nat) (a c h : Int) : Bool := decide (h ≤ a + c) || decide ((m : Int) ≤ h)
set_option maxHeartbeats 600000 in
theorem out_calls (H : St w0 w (rDisk p d :: L)) (a c h : Int) (c1 : w.cell? ⟨b1, 0, none⟩ = some (.int .i64 a)) (c2 : w.cell? ⟨b2, 0, none⟩ = some (.int .i64 c)) (c3 : w.cell? ⟨b3, 0, none⟩ = some (.pointer (some ⟨p, 0, none⟩)))
    (ha : 0 ≤ a ∧ a ≤ 1048576) (hc : 0 ≤ c ∧ c ≤ 100) : Calls Tryd.prog 53 #[.int .i64 h, .pointer (some ⟨b1, 0, none⟩), .pointer (some ⟨b2, 0, none⟩), .pointer (some ⟨b3, 0, none⟩)] w fun e w' => e = .returned (.bool (outB d.vals.length a c h)) ∧ w' = w := by
  have hs := H.sectors
  obtain ⟨n, hnd⟩ : ∃ n, n = d.vals.length := ⟨_, rfl⟩
  rw [← hnd] at hs ⊢
  have HS := Aside0.mk hs
  clear H hs hnd
  have wr : wrap64 (a + c) = a + c := by unfold wrap64; omega
  by_cases h1 : h ≤ a + c
  · have e1 : decide (h ≤ a + c) = true := decide_eq_true h1
    have hr : outB n a c h = true := by unfold outB; rw [e1]; rfl
    have HR := Aside0.mk hr
    clear hr
    go_enter Tryd.func53, Tryd.ntmps53
    go_wp2
    go_ret
    exact ⟨by rw [HR.out]; rfl, rfl⟩
  · have e1 : decide (h ≤ a + c) = false := decide_eq_false h1
    have hr : outB n a c h = decide ((n : Int) ≤ h) := by unfold outB; rw [e1]; rfl
    have HR := Aside0.mk hr
    clear hr
    go_enter Tryd.func53, Tryd.ntmps53
    go_wp2_with fail
    refine HS.out.mono ?_
    rintro e w1 ⟨rfl, rfl⟩
    clear HS
    go_wp2
    go_ret
    exact ⟨by rw [HR.out]; rfl, rfl⟩
theorem contains_calls (H : St w0 w (rDisk p d :: L)) (a c : Int) (c1 : w.cell? ⟨b1, 0, none⟩ = some (.int .i64 a)) (c2 : w.cell? ⟨b2, 0, none⟩ = some (.int .i64 c)) (c3 : w.cell? ⟨b3, 0, none⟩ = some (.pointer (some ⟨p, 0, none⟩)))
    (ha : 0 ≤ a ∧ a ≤ 1048576) (hc : 0 ≤ c ∧ c ≤ 100) {A : Option Addr} {n cc : Nat} {l : List Int} (hl : RdI w A l) (hn : l.length = n) (hA : A = none ∨ ∃ g o, A = some ⟨g, o, none⟩) :
    Calls Tryd.prog 54 #[.slice A n cc, .func (.func 53) #[] #[.pointer (some ⟨b1, 0, none⟩), .pointer (some ⟨b2, 0, none⟩), .pointer (some ⟨b3, 0, none⟩)]] w fun e w' => e = .returned (.bool (l.any (outB d.vals.length a c))) ∧ Below w.heap.size w w' := by
  rcases Nat.eq_zero_or_pos n with h0 | h0
  · subst h0
    have := AnyE.slices_ContainsFunc_empty Tryd.containsA A cc (.func (.func 53) #[] #[.pointer (some ⟨b1, 0, none⟩), .pointer (some ⟨b2, 0, none⟩), .pointer (some ⟨b3, 0, none⟩)]) w
    refine this.mono ?_
    rintro e w' ⟨rfl, rfl⟩
    rw [List.length_eq_zero_iff.1 hn]
    exact ⟨rfl, Below.refl _ _⟩
  · obtain ⟨ad, rfl, hc0⟩ := RdI.at_ hl (j := 0) (by omega)
    obtain ⟨g, o, hA⟩ : ∃ g o, some ad = some ⟨g, o, none⟩ := by
      rcases hA with h | h
      · cases h
      · exact h
    cases hA
    have eg : ∀ args w, (callFunc 53 args).run Tryd.prog w = .ok (.enter 53 args) w := enters_of Tryd.func53 (by kernel_rfl) rfl
    have hp : PredAt Tryd.prog 53 #[.pointer (some ⟨b1, 0, none⟩), .pointer (some ⟨b2, 0, none⟩), .pointer (some ⟨b3, 0, none⟩)] (Value.int .i64) (outB d.vals.length a c) w := fun W x hb => by
      have k1 := (hb.cell (World.block_lt_of_cell? w _ c1)).trans c1
      have k2 := (hb.cell (World.block_lt_of_cell? w _ c2)).trans c2
      have k3 := (hb.cell (World.block_lt_of_cell? w _ c3)).trans c3
      have := out_calls (H.go hb) a c x k1 k2 k3 ha hc
      exact this.mono fun e w' ⟨he, hw⟩ => ⟨he, 0, hw⟩
    have hcon := AnyE.slices_ContainsFunc Tryd.containsA (Value.int .i64) (outB d.vals.length a c) 53 #[.pointer (some ⟨b1, 0, none⟩), .pointer (some ⟨b2, 0, none⟩), .pointer (some ⟨b3, 0, none⟩)] eg g o n cc l w hp (by omega) (by rw [← hn]; exact hl.2.1) (fun j hj => by
      obtain ⟨ad, ha, hcj⟩ := RdI.at_ hl hj
      cases ha
      rw [List.getElem!_eq_getElem?_getD]
      rw [addr_add] at hcj
      rw [hcj, List.getD_eq_getElem?_getD]; rfl)
    rw [List.take_of_length_le (by omega)] at hcon
    exact hcon.mono fun e w' ⟨he, q, hw⟩ => ⟨he, by rw [hw]; exact below_drewN' (Below.refl _ w) q⟩
end
end Go.Proofs.YtfhdiddlloiglaaDoor
end
