/- The law VersionOps: its closure, its walk. -/
import Derived.Lib.QuietBelow
import Derived.Test.YtbikimkmkchkhaaDoorMAU2
import Derived.Test.YtbikimkmkchkhaaDoorMAPAllx77
namespace Go.Proofs.YtbikimkmkchkhaaDoor.PAll
open Go.RowKit Go.Lib Go.Proofs.YtbikimkmkchkhaaDoor Go.Proofs.YtbikimkmkchkhaaDoorW.PrintWords Go.Proofs.YtbikimkmkchkhaaDoorW.PrintLast Go.Proofs.YtbikimkmkchkhaaDoorW.PrintMore
attribute [local go_sem] Oper.semAt_some
set_option linter.unusedVariables false
set_option linter.unusedSimpArgs false

def holdB (op c : Int) : Bool := if op = 0 then true else if op = 1 then c == 0 else if op = 2 then decide (c < 0) else if op = 3 then decide (c ≤ 0) else if op = 4 then decide (0 < c) else if op = 5 then decide (0 ≤ c) else if op = 6 then c != 0 else false
def holdE (op : Int) : Int := if 0 ≤ op ∧ op ≤ 6 then 0 else 2
theorem holds_f {p : List Int} {t : ByteArray} {q : List Int} {u : ByteArray} (op : Int) (hp : p.length ≤ 140737488355328) (hq : q.length ≤ 140737488355328) (ht : t.size ≤ 9223372036854775807) (hu : u.size ≤ 9223372036854775807) :
    version_Holds.f 2 op p t q u = some (holdB op (cmpV p t q u), holdE op) := by
  have sg := cmpV_sgn p t q u
  simp only [version_Holds.f, compare_at hp hq ht hu, Option.bind_some]
  generalize cmpV p t q u = c at *
  by_cases h0 : op = 0
  · subst h0; rfl
  by_cases h1 : op = 1
  · subst h1; rcases sg with rfl | rfl | rfl <;> decide +kernel
  by_cases h2 : op = 2
  · subst h2; rcases sg with rfl | rfl | rfl <;> decide +kernel
  by_cases h3 : op = 3
  · subst h3; rcases sg with rfl | rfl | rfl <;> decide +kernel
  by_cases h4 : op = 4
  · subst h4; rcases sg with rfl | rfl | rfl <;> decide +kernel
  by_cases h5 : op = 5
  · subst h5; rcases sg with rfl | rfl | rfl <;> decide +kernel
  by_cases h6 : op = 6
  · subst h6; rcases sg with rfl | rfl | rfl <;> decide +kernel
  rw [if_neg h0, if_neg h1]
  have e6 : (op == 6) = false := by simp [h6]
  have e5 : (op == 5) = false := by simp [h5]
  rw [e6]
  simp only [version_Holds.j0, Bool.false_eq_true, if_false]
  rw [if_neg h2, e5]
  simp only [version_Holds.j1, Bool.false_eq_true, if_false]
  rw [if_neg h4, if_neg h3]
  have hB : holdB op c = false := by unfold holdB; rw [if_neg h0, if_neg h1, if_neg h2, if_neg h3, if_neg h4, if_neg h5, if_neg h6]
  have hE : holdE op = 2 := by unfold holdE; rw [if_neg (by omega)]
  rw [hB, hE]
/-- The closure, at an operation that is one. -/
theorem h_calls (A : Option Addr) (c : Nat) (p : List Int) (t : ByteArray) (B : Option Addr) (d : Nat) (q : List Int) (u : ByteArray) (op : Int) (b : Bool) (w : World) (hC : Kd.C (Kd.int .i64) w A p.length p) (hc : p.length ≤ c) (hD : Kd.C (Kd.int .i64) w B q.length q) (hd : q.length ≤ d)
    (hp : p.length ≤ 140737488355328) (hq : q.length ≤ 140737488355328) (ht : t.size ≤ 9223372036854775807) (hu : u.size ≤ 9223372036854775807) (hop : 0 ≤ op ∧ op ≤ 6) (hb : holdB op (cmpV p t q u) = b) :
    Calls Tryd.prog 15 #[.int .i64 op, .agg #[.slice A p.length c, .string t], .agg #[.slice B q.length d, .string u]] w fun e w' => e = .returned (.bool b) ∧ Below w.heap.size w w' := by
  have hf := holds_f (p := p) (t := t) (q := q) (u := u) op hp hq ht hu
  rw [hb, show holdE op = 0 by unfold holdE; rw [if_pos hop]] at hf
  clear hb hop
  have hB0 := ((Below.refl w.heap.size w).alloc (Nat.le_refl _) (.cells #[.slice A p.length c, .string t] 24)).alloc (by simp) (.cells #[.slice B q.length d, .string u] 24)
  have hH := version_Holds.calls 2 op A c p t B d q u b 0 _ (Kd.C_below hC hB0) hc (Kd.C_below hD hB0) hd hf
  have HB := Aside0.mk hB0
  have HH := Aside0.mk hH
  clear hf hH hB0 hC hD
  cases b with
  | true =>
    go_enter Tryd.func15, Tryd.ntmps15
    go_wp2_with fail
    refine HH.out.mono ?_
    rintro e w1 ⟨rfl, hb1⟩
    go_wp2
    go_ret
    exact ⟨rfl, HB.out.trans (hb1.mono (by simp; omega))⟩
  | false =>
    go_enter Tryd.func15, Tryd.ntmps15
    go_wp2_with fail
    refine HH.out.mono ?_
    rintro e w1 ⟨rfl, hb1⟩
    go_wp2
    go_ret
    exact ⟨rfl, HB.out.trans (hb1.mono (by simp; omega))⟩
set_option maxRecDepth 100000 in
set_option maxHeartbeats 8000000 in
theorem ops_walk (A : Option Addr) (c : Nat) (p : List Int) (t : ByteArray) (B : Option Addr) (d : Nat) (q : List Int) (u : ByteArray) (w : World) (hC : Kd.C (Kd.int .i64) w A p.length p) (hc : p.length ≤ c) (hD : Kd.C (Kd.int .i64) w B q.length q) (hd : q.length ≤ d)
    (hp : p.length ≤ 140737488355328) (hq : q.length ≤ 140737488355328) (ht : t.size ≤ 9223372036854775807) (hu : u.size ≤ 9223372036854775807) (hT : Tabs w) :
    Calls Tryd.prog 5 #[.agg #[.slice A p.length c, .string t], .agg #[.slice B q.length d, .string u]] w fun e w' => e = .returned (.bool true) ∧ Below w.heap.size w w' := by
  have hneg := cmpV_neg p t q u
  have K : ∀ (op : Int) (b : Bool), (0 ≤ op ∧ op ≤ 6) → holdB op (cmpV p t q u) = b → ∀ W, Below w.heap.size w W → Calls Tryd.prog 15 #[.int .i64 op, .agg #[.slice A p.length c, .string t], .agg #[.slice B q.length d, .string u]] W fun e w' => e = .returned (.bool b) ∧ Below W.heap.size W w' := fun op b ho hb W hW =>
    h_calls A c p t B d q u op b W (Kd.C_below hC hW) hc (Kd.C_below hD hW) hd hp hq ht hu ho hb
  have K' : ∀ (op : Int) (b : Bool), (0 ≤ op ∧ op ≤ 6) → holdB op (cmpV q u p t) = b → ∀ W, Below w.heap.size w W → Calls Tryd.prog 15 #[.int .i64 op, .agg #[.slice B q.length d, .string u], .agg #[.slice A p.length c, .string t]] W fun e w' => e = .returned (.bool b) ∧ Below W.heap.size W w' := fun op b ho hb W hW =>
    h_calls B d q u A c p t op b W (Kd.C_below hD hW) hd (Kd.C_below hC hW) hc hq hp hu ht ho hb
  have sg := cmpV_sgn p t q u
  rw [hneg] at K'
  clear hC hD hp hq ht hu hneg
  generalize cmpV p t q u = x at *
  have hB0 := ((Below.refl w.heap.size w).alloc (Nat.le_refl _) (.cells #[.slice A p.length c, .string t] 24)).alloc (by simp) (.cells #[.slice B q.length d, .string u] 24)
  have hW := sutlerlaw17_works.calls true _ works_true (hT.below hB0)
  have x0 : ((w.alloc (.cells #[.slice A p.length c, .string t] 24)).alloc (.cells #[.slice B q.length d, .string u] 24)).cell? ⟨w.heap.size, 0, none⟩ = some (.slice A p.length c) := by go_simp
  have x1 : ((w.alloc (.cells #[.slice A p.length c, .string t] 24)).alloc (.cells #[.slice B q.length d, .string u] 24)).cell? ⟨w.heap.size, 1, none⟩ = some (.string t) := by go_simp
  have y0 : ((w.alloc (.cells #[.slice A p.length c, .string t] 24)).alloc (.cells #[.slice B q.length d, .string u] 24)).cell? ⟨w.heap.size + 1, 0, none⟩ = some (.slice B q.length d) := by go_simp
  have y1 : ((w.alloc (.cells #[.slice A p.length c, .string t] 24)).alloc (.cells #[.slice B q.length d, .string u] 24)).cell? ⟨w.heap.size + 1, 1, none⟩ = some (.string u) := by go_simp
  have HW := Aside0.mk hW; have X0 := Aside0.mk x0; have X1 := Aside0.mk x1; have Y0 := Aside0.mk y0; have Y1 := Aside0.mk y1; have HB := Aside0.mk hB0
  clear hW x0 x1 y0 y1 hB0 hT hc hd
  have key : ∀ (b1 b2 b3 b4 b5 b6 b7 : Bool), holdB 1 x = b1 → holdB 2 x = b2 → holdB 3 x = b3 → holdB 4 x = b4 → holdB 5 x = b5 → holdB 6 x = b6 → holdB 4 (-x) = b7 →
      ((b1 = false ∧ b2 = true ∧ b3 = true ∧ b4 = false ∧ b5 = false ∧ b6 = true ∧ b7 = true) ∨ (b1 = true ∧ b2 = false ∧ b3 = true ∧ b4 = false ∧ b5 = true ∧ b6 = false ∧ b7 = false) ∨ (b1 = false ∧ b2 = false ∧ b3 = false ∧ b4 = true ∧ b5 = true ∧ b6 = true ∧ b7 = false)) →
      Calls Tryd.prog 5 #[.agg #[.slice A p.length c, .string t], .agg #[.slice B q.length d, .string u]] w fun e w' => e = .returned (.bool true) ∧ Below w.heap.size w w' := by
    intro b1 b2 b3 b4 b5 b6 b7 e1 e2 e3 e4 e5 e6 e7 hall
    have K1 := Aside0.mk (K 1 b1 (by omega) e1); have K2 := Aside0.mk (K 2 b2 (by omega) e2); have K3 := Aside0.mk (K 3 b3 (by omega) e3); have K4 := Aside0.mk (K 4 b4 (by omega) e4); have K5 := Aside0.mk (K 5 b5 (by omega) e5); have K6 := Aside0.mk (K 6 b6 (by omega) e6); have K0 := Aside0.mk (K 0 true (by omega) rfl); have K7 := Aside0.mk (K' 4 b7 (by omega) e7)
    clear K K' e1 e2 e3 e4 e5 e6 e7
    rcases hall with ⟨rfl, rfl, rfl, rfl, rfl, rfl, rfl⟩ | ⟨rfl, rfl, rfl, rfl, rfl, rfl, rfl⟩ | ⟨rfl, rfl, rfl, rfl, rfl, rfl, rfl⟩
    all_goals
      go_enter Tryd.func5, Tryd.ntmps5
      go_wp2_with fail
      refine HW.out.mono ?_
      rintro e w1 ⟨rfl, hb1⟩
      have x0 := (hb1.cell (World.block_lt_of_cell? _ _ X0.out)).trans X0.out
      have x1 := (hb1.cell (World.block_lt_of_cell? _ _ X1.out)).trans X1.out
      have y0 := (hb1.cell (World.block_lt_of_cell? _ _ Y0.out)).trans Y0.out
      have y1 := (hb1.cell (World.block_lt_of_cell? _ _ Y1.out)).trans Y1.out
      have HB1 := Aside0.mk (HB.out.trans (hb1.mono (by simp; omega)))
      clear hb1
      go_wp2_with fail
      have k0 := cell_regrown x0
      have k1 := cell_regrown x1
      have k2 := cell_regrown y0
      have k3 := cell_regrown y1
      have r1 := fun d' os => Calls.regrown_of (d := d') (os := os) (K1.out (Sort.grow (redrawn w1 d') os) (HB1.out.trans ((below_regrown w1 d' os).mono HB1.out.size)))
      have r2 := fun d' os => Calls.regrown_of (d := d') (os := os) (K2.out (Sort.grow (redrawn w1 d') os) (HB1.out.trans ((below_regrown w1 d' os).mono HB1.out.size)))
      have r4 := fun d' os => Calls.regrown_of (d := d') (os := os) (K4.out (Sort.grow (redrawn w1 d') os) (HB1.out.trans ((below_regrown w1 d' os).mono HB1.out.size)))
      refine wp_region_quiet_below (by kernel_rfl) (by kernel_rfl) ?_
      repeat (
        with_reducible refine wpQuiet_step ?_
        intro KK hK
        go_simp
        first
          | (with_reducible refine hK _ ?_; clear hK KK)
          | (apply Exists.intro
             refine ⟨fun _ => ?_, hK _ ?_⟩
             (first | with_reducible exact r1 _ _ | with_reducible exact r2 _ _ | with_reducible exact r4 _ _)
             clear hK KK))
      refine wpQuiet_nil ?_
      intro _ hw'
      obtain ⟨⟨dq, osq⟩, hw''⟩ := hw'
      subst hw''
      have hq := below_regrown w1 dq osq
      have k0 := cell_regrown x0 dq osq
      have k1 := cell_regrown x1 dq osq
      have k2 := cell_regrown y0 dq osq
      have k3 := cell_regrown y1 dq osq
      have HB2 := Aside0.mk (HB1.out.trans (hq.mono HB1.out.size))
      clear r1 r2 r4 hq x0 x1 y0 y1
      generalize Sort.grow (redrawn w1 dq) osq = W at *
      go_wp2_with fail
      refine (K3.out _ HB2.out).mono ?_
      rintro e W3 ⟨rfl, hbb⟩
      replace k0 := (hbb.cell (World.block_lt_of_cell? _ _ k0)).trans k0
      replace k1 := (hbb.cell (World.block_lt_of_cell? _ _ k1)).trans k1
      replace k2 := (hbb.cell (World.block_lt_of_cell? _ _ k2)).trans k2
      replace k3 := (hbb.cell (World.block_lt_of_cell? _ _ k3)).trans k3
      have HB3 := Aside0.mk (HB2.out.trans (hbb.mono HB2.out.size))
      clear hbb
      go_wp2_with fail
      refine (K5.out _ HB3.out).mono ?_
      rintro e W4 ⟨rfl, hbb⟩
      replace k0 := (hbb.cell (World.block_lt_of_cell? _ _ k0)).trans k0
      replace k1 := (hbb.cell (World.block_lt_of_cell? _ _ k1)).trans k1
      replace k2 := (hbb.cell (World.block_lt_of_cell? _ _ k2)).trans k2
      replace k3 := (hbb.cell (World.block_lt_of_cell? _ _ k3)).trans k3
      have HB4 := Aside0.mk (HB3.out.trans (hbb.mono HB3.out.size))
      clear hbb
      go_wp2_with fail
      refine (K6.out _ HB4.out).mono ?_
      rintro e W5 ⟨rfl, hbb⟩
      replace k0 := (hbb.cell (World.block_lt_of_cell? _ _ k0)).trans k0
      replace k1 := (hbb.cell (World.block_lt_of_cell? _ _ k1)).trans k1
      replace k2 := (hbb.cell (World.block_lt_of_cell? _ _ k2)).trans k2
      replace k3 := (hbb.cell (World.block_lt_of_cell? _ _ k3)).trans k3
      have HB5 := Aside0.mk (HB4.out.trans (hbb.mono HB4.out.size))
      clear hbb
      go_wp2_with fail
      refine (K0.out _ HB5.out).mono ?_
      rintro e W6 ⟨rfl, hbb⟩
      replace k0 := (hbb.cell (World.block_lt_of_cell? _ _ k0)).trans k0
      replace k1 := (hbb.cell (World.block_lt_of_cell? _ _ k1)).trans k1
      replace k2 := (hbb.cell (World.block_lt_of_cell? _ _ k2)).trans k2
      replace k3 := (hbb.cell (World.block_lt_of_cell? _ _ k3)).trans k3
      have HB6 := Aside0.mk (HB5.out.trans (hbb.mono HB5.out.size))
      clear hbb
      go_wp2_with fail
      refine (K7.out _ HB6.out).mono ?_
      rintro e W7 ⟨rfl, hbb⟩
      replace k0 := (hbb.cell (World.block_lt_of_cell? _ _ k0)).trans k0
      replace k1 := (hbb.cell (World.block_lt_of_cell? _ _ k1)).trans k1
      replace k2 := (hbb.cell (World.block_lt_of_cell? _ _ k2)).trans k2
      replace k3 := (hbb.cell (World.block_lt_of_cell? _ _ k3)).trans k3
      have HB7 := Aside0.mk (HB6.out.trans (hbb.mono HB6.out.size))
      clear hbb
      go_wp2
      go_ret
      exact ⟨rfl, HB7.out⟩
  rcases sg with rfl | rfl | rfl
  · exact key _ _ _ _ _ _ _ rfl rfl rfl rfl rfl rfl rfl (by decide)
  · exact key _ _ _ _ _ _ _ rfl rfl rfl rfl rfl rfl rfl (by decide)
  · exact key _ _ _ _ _ _ _ rfl rfl rfl rfl rfl rfl rfl (by decide)
end Go.Proofs.YtbikimkmkchkhaaDoor.PAll
