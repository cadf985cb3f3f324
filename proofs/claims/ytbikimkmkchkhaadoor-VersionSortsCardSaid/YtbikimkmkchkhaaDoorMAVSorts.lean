/- The call of VersionSorts. -/
import Derived.Test.YtbikimkmkchkhaaDoorMASo16
import Derived.Test.YtbikimkmkchkhaaDoorMAVBounds
namespace Go.Proofs.YtbikimkmkchkhaaDoor
open Go.ChangeShapes Go.WideShapes Go.RowKit Go.Deep Go.Proofs.YtbikimkmkchkhaaDoorW.PrintWords
section
variable {H : Type} (enc : TypeId × Value → H) (W : World) {spare : Nat → Bool} {held : Bool}
theorem opens_versions : Op.Opens enc Tryd.prog W spare held 39 (Kd.slice 24 (Kd.iso VerK id)) (fun ys => ys.length * 40 ≤ reachBytes ∧ ∀ y ∈ ys, (y.1.length * 8 ≤ reachBytes ∧ ∀ z ∈ y.1, (Lit.int .i64 z).wf = true) ∧ y.2.size ≤ reachBytes) :=
  Op.opens_slice enc Tryd.prog W spare held 24 Tryd.underlying39 (by kernel_rfl) (by kernel_rfl : Tryd.prog.cellsOf 24 = 2) rfl ⟨([], ⟨#[]⟩)⟩ (opens_version enc W)
end
theorem enc_idx : ∀ (l : List VE) (j : Nat) (u : Value), (enc l)[j]? = some u → ∃ i, ∃ h : i < l.length, (j = i * 2 ∧ u = l[i].p0) ∨ (j = i * 2 + 1 ∧ u = l[i].t0)
  | [], j, u, h => by simp [enc] at h
  | a :: r, 0, u, h => ⟨0, by simp, .inl ⟨rfl, by have : some a.p0 = some u := h; injection this with h; exact h.symm⟩⟩
  | a :: r, 1, u, h => ⟨0, by simp, .inr ⟨rfl, by have : some a.t0 = some u := h; injection this with h; exact h.symm⟩⟩
  | a :: r, j + 2, u, h => by
    have h' : (enc r)[j]? = some u := h
    obtain ⟨i, hi, hc⟩ := enc_idx r j u h'
    refine ⟨i + 1, by simpa using hi, ?_⟩
    rcases hc with ⟨e1, e2⟩ | ⟨e1, e2⟩
    · exact .inl ⟨by omega, e2⟩
    · exact .inr ⟨by omega, e2⟩
theorem sorts_call (A : Option Addr) (c : Nat) (ys : List (List Int × ByteArray)) (w : World) (hC : Kd.C (Kd.iso VerK id) w A ys.length ys) (hc : ys.length ≤ c)
    (hG : ys.length * 40 ≤ reachBytes ∧ ∀ y ∈ ys, (y.1.length * 8 ≤ reachBytes ∧ ∀ z ∈ y.1, (Lit.int .i64 z).wf = true) ∧ y.2.size ≤ reachBytes) (hT : PAll.Tabs w) :
    Calls Tryd.prog 7 #[.slice A ys.length c] w fun e w' => e = .returned (.bool true) ∧ Below w.heap.size w w' := by
  obtain ⟨_, _, hC2⟩ := hC
  by_cases h0 : 0 < ys.length
  · obtain ⟨a, ha, hC3⟩ := hC2 h0
    subst ha
    have each : ∀ i, i < ys.length → ∃ x : VE, VOk w x ∧ w.cell? (a.add (i * 2)) = some x.p0 ∧ w.cell? (a.add (i * 2 + 1)) = some x.t0 := by
      intro i hi
      obtain ⟨cs, h1, h2, h3⟩ := hC3 i ys[i] (List.getElem?_eq_getElem hi)
      obtain ⟨A', c', e, hle, hK⟩ := version_cells (W := w) (cs := cs.toArray) (x := ys[i]) (by simpa [Value.cells] using h2)
      have e : cs = [.slice A' ys[i].1.length c', .string ys[i].2] := by
        have := congrArg Array.toList e
        simpa using this
      subst e
      have hb := PAll.vg_bounds (hG.2 _ (List.getElem_mem hi))
      refine ⟨⟨A', c', ys[i].1, ys[i].2⟩, ⟨hK, hle, hb.1, hb.2⟩, ?_, ?_⟩
      · have := h3 0 _ rfl
        exact this
      · have := h3 1 _ rfl
        exact this
    haveI : Inhabited VE := ⟨⟨none, 0, [], ⟨#[]⟩⟩⟩
    obtain ⟨q, hq⟩ := choose_lt each
    have hl : ((List.range ys.length).map q).length = ys.length := by simp
    refine sorts_walk (l := (List.range ys.length).map q) hl hc (fun a' ha j u hj => ?_) (fun h => by cases h) (fun x hx => ?_) hT
    · cases ha
      obtain ⟨i, hi, hcase⟩ := enc_idx _ j u hj
      have hi' : i < ys.length := by simpa using hi
      have eq : ((List.range ys.length).map q)[i] = q i := by simp
      rw [eq] at hcase
      obtain ⟨_, h1, h2⟩ := hq i hi'
      rcases hcase with ⟨rfl, rfl⟩ | ⟨rfl, rfl⟩
      · exact h1
      · exact h2
    · obtain ⟨i, hi, rfl⟩ := List.mem_map.1 hx
      exact (hq i (List.mem_range.1 hi)).1
  · have hn : ys.length = 0 := by omega
    refine sorts_walk (l := []) hn.symm hc (fun a _ j u hj => by simp [enc] at hj) (fun _ => hn) (fun x hx => by cases hx) hT
end Go.Proofs.YtbikimkmkchkhaaDoor
