/- A slice of sectors ([][]byte) of one's own, each of its values nobody's to write. -/
import Derived.Test.YtoojcgmdcbcenaaLw
namespace Go.Proofs.Ytoojcgmdcbcenaa
open Go.RowKit Go.Maps Go.Proofs.YtoojcgmdcbcenaaW.PrintWords
set_option linter.unusedVariables false
set_option linter.unusedSimpArgs false
set_option maxRecDepth 100000

/-- Headers that lead to these values. -/
def rHdrs (us : List Value) (vs : List Sec) : Res :=
  ⟨fun w T S => (us.length = vs.length ∧ ∀ (k : Nat) (u : Value) (s : Sec), us[k]? = some u → vs[k]? = some s → ∃ b c, u = .slice (some ⟨b, 0, none⟩) 256 c ∧ ValAt w T b c s) ∧ ∀ i, ¬ S i, fun h i hi => absurd hi (h.2 i),
   fun h _ hk hT => ⟨⟨h.1.1, fun k u s h1 h2 => by
     obtain ⟨b, c, h3, h4⟩ := h.1.2 k u s h1 h2
     exact ⟨b, c, h3, h4.kept (fun i hi => hk i (.inr hi)) hT⟩⟩, h.2⟩⟩
def rList (v : Value) (vs : List Sec) : Res := rEx fun us : List Value => rAll [rRow 31 1 v vs.length us, rHdrs us vs]
section
variable {w0 w : World} {L : List Res}
theorem St.list {v : Value} {vs : List Sec} (H : St w0 w (rList v vs :: L)) : ∃ us, St w0 w (rRow 31 1 v vs.length us :: rHdrs us vs :: L) := by
  obtain ⟨us, H⟩ := H.ex1
  exact ⟨us, H.opn⟩
theorem St.mkList {v : Value} {vs : List Sec} (us : List Value) (H : St w0 w (rRow 31 1 v vs.length us :: rHdrs us vs :: L)) : St w0 w (rList v vs :: L) := St.in1 us (St.cls (M := [_, _]) H)
/-- The k-th element of a list of sectors. -/
theorem St.listAt {v : Value} {vs : List Sec} (H : St w0 w (rList v vs :: L)) {k : Nat} (hk : k < vs.length) (h256 : ∀ s ∈ vs, s.length = 256) : ∃ g cap b c, v = .slice (some ⟨g, 0, none⟩) vs.length cap ∧ vs.length ≤ cap ∧ w.cell? ⟨g, k, none⟩ = some (.slice (some ⟨b, 0, none⟩) 256 c) ∧ 256 ≤ c ∧ Rd w (some ⟨b, 0, none⟩) vs[k] := by
  obtain ⟨us, H⟩ := H.list
  have hr := H.row
  obtain ⟨T, S, hh, _⟩ := H.drop.fst
  obtain ⟨g, cap, rfl, hb, _⟩ := hr.form (by omega)
  have hlu := hh.1.1
  obtain ⟨b, c, e, hv⟩ := hh.1.2 k us[k] vs[k] (List.getElem?_eq_getElem (by omega)) (List.getElem?_eq_getElem hk)
  have hc := hr.cells (g := g) rfl k us[k] (List.getElem?_eq_getElem (by omega))
  rw [addr_add, Nat.zero_add, e] at hc
  obtain ⟨h1, h2⟩ := own_256 (h256 _ (List.getElem_mem hk)) hv.2
  have hcap : vs.length ≤ cap := by
    rcases hr.2 with ⟨e, _⟩ | ⟨g', cap', cur, e, _, _, h3, _⟩
    · cases e
    · injection e with _ _ e3
      rw [e3]; exact h3
  exact ⟨g, cap, b, c, rfl, hcap, hc, h1, h2⟩
theorem St.listVal {v : Value} {vs : List Sec} (H : St w0 w (rList v vs :: L)) : ∃ A c, v = .slice A vs.length c := by
  obtain ⟨us, H⟩ := H.list
  exact own_slice H.row
/-- One value alone: '[][]byte{b}' behind its block. -/
theorem St.listOne {g b c : Nat} {s : Sec} (H : St w0 w (rBlk g (.cells #[.slice (some ⟨b, 0, none⟩) 256 c] 31) :: rVal b c s :: L)) : St w0 w (rList (.slice (some ⟨g, 0, none⟩) 1 1) [s] :: L) := by
  refine St.mkList [.slice (some ⟨b, 0, none⟩) 256 c] ?_
  refine H.mono fun T => Holds.cons_mono (fun S h => ⟨⟨by simp, .inr ⟨g, 1, _, rfl, Nat.zero_le _, h.1, Nat.le_refl _, by simp [maxLen], rfl, rfl⟩⟩, fun i => ?_⟩) (Holds.cons_mono (fun S h => ⟨⟨rfl, fun k u t h1 h2 => ?_⟩, h.2⟩) fun _ h => h)
  · rw [h.2 i]
    simp only [Value.ownBlock, Option.some.injEq]
    exact ⟨fun e => e.symm, fun e => e.symm⟩
  · rcases k with _ | k
    · simp at h1 h2
      subst h1 h2
      exact ⟨b, c, rfl, h.1⟩
    · simp at h1
theorem rHdrs_snoc {us : List Value} {vs : List Sec} {b c : Nat} {s : Sec} (H : St w0 w (rHdrs us vs :: rVal b c s :: L)) : St w0 w (rHdrs (us ++ [.slice (some ⟨b, 0, none⟩) 256 c]) (vs ++ [s]) :: L) := by
  refine H.join.imp fun T S h hS hT => ?_
  obtain ⟨S1, S2, h1, h2, h3, h4⟩ := h
  refine ⟨⟨by simp [h1.1.1], fun k u t g1 g2 => ?_⟩, fun q hq => ((h4 q).1 hq).elim (h1.2 q) (h2.2 q)⟩
  have hl := h1.1.1
  by_cases hk : k < us.length
  · rw [List.getElem?_append_left hk] at g1
    rw [List.getElem?_append_left (by omega)] at g2
    exact h1.1.2 k u t g1 g2
  · have hk2 : k = us.length := by
      have := (List.getElem?_eq_some_iff.1 g1).1
      rw [List.length_append, List.length_singleton] at this
      omega
    subst hk2
    have e1 : u = .slice (some ⟨b, 0, none⟩) 256 c := by simpa using g1.symm
    have e2 : t = s := by rw [hl] at g2; simpa using g2.symm
    subst e1 e2
    exact ⟨b, c, rfl, h2.1⟩
end
theorem info31_ : (Try.prog.info? 31).map (fun i => (i.zero, i.size, i.bytes)) = some (some (.slice none 0 0), 1, 24) := by kernel_rfl
theorem info31 : ∃ i, Try.prog.info? 31 = some i ∧ i.zero = some (.slice none 0 0) ∧ i.size = 1 ∧ i.bytes = 24 := by
  have h := info31_
  cases hi : Try.prog.info? 31 with
  | none => rw [hi] at h; cases h
  | some i =>
    rw [hi] at h
    simp only [Option.map_some, Option.some.injEq, Prod.mk.injEq] at h
    exact ⟨i, rfl, h.1, h.2.1, h.2.2⟩
section
variable {ops : Array Oper} {o : Oper} {a : Act} {W : World} {Q : Exit → Act → World → Prop} {rest : List Oper}
/-- append(x, y...) of slices' headers. -/
theorem wpl_app40 (hg : o.guard = none) (d x : Operand) (hop : o.op = Op.call { callee := Callee.builtin Builtin.append, args := #[d, x], argTypes := #[40, 40] })
    (v : Value) (n : Nat) (us zs : List Value) (A : Addr) (m c : Nat) (hd : a.eval d = v) (hx : a.eval x = .slice (some A) m c) (hm : zs.length = m) (hO : W.ownsRow 0 31 1 v n us) (hz : ∀ j u, zs[j]? = some u → W.cell? (A.add j) = some u) (h1 : ∀ u ∈ zs, u.oneCell' = true)
    (hl : n + m ≤ 1048576)
    (hK : ∀ v1 w1, w1.ownsRow 0 31 1 v1 (n + m) (us ++ zs) → W.grownBy w1 v.ownBlock → (v1.ownBlock = v.ownBlock ∨ v1.ownBlock = some W.heap.size) → wpList Try.prog ops Q rest (a.put o.dst v1) w1) : wpList Try.prog ops Q (o :: rest) a W := by
  obtain ⟨i0, hi, hz0, hz1, hz2⟩ := info31
  refine wpList_append_own_at (P := Try.prog) W hg d x 40 hop 0 31 i0 (.slice none 0 0) 1 24 Try.underlying40 hi hz0 hz1 hz2 rfl (by decide) v n us hd hO A m c zs hx (by simp [hm]) hz h1 (by simp only [maxLen]; omega) (by omega) (Nat.zero_le _) ?_
  intro v1 w1 h1 h2 h3 h4
  exact hK v1 w1 h1 h2 h4
end
end Go.Proofs.Ytoojcgmdcbcenaa
