/- What comes in, opened to the print's own kinds: numbers, texts, slices, structs, whatever lies in them. -/
import Derived.Deep.Slices
import Derived.ChangeArms
import Derived.SizedLaws
import Derived.OpenShut
import Derived.Test.YtfhdiddlloiglaaDoorWWords
namespace Go.Proofs.YtfhdiddlloiglaaDoor.Op
open Go.ChangeShapes Go.WideShapes Go.Deep Go.Proofs.YtfhdiddlloiglaaDoorW.PrintWords

set_option linter.unusedVariables false
section
variable {H : Type} (enc : TypeId × Value → H) (P : Program) (W : World) (spare : Nat → Bool) (held : Bool)

/-- A datum of that type is read as a value of the kind d, and what G says is so of it. -/
def Opens {α : Type} (t : TypeId) (d : Kd α) (G : α → Prop) : Prop :=
  ∀ fuel cs x, DataW.trod enc P W 0 spare held fuel t cs = some x → (∀ n ∈ x.1.weights P t, n ≤ reachBytes) → ∃ y, d.K W y cs ∧ G y

theorem opens_int {t : TypeId} {k : IntKind} (ht : P.underlying t = some (.int k)) : Opens enc P W spare held t (Kd.int k) (fun n => (Lit.int k n).wf = true) := by
  intro fuel cs x h _
  obtain ⟨n, rfl, _, hw⟩ := DataW.trod_int ht h
  exact ⟨n, rfl, hw⟩
theorem opens_bool {t : TypeId} (ht : P.underlying t = some .bool) : Opens enc P W spare held t Kd.bool (fun _ => True) := by
  intro fuel cs x h _
  obtain ⟨n, rfl, _⟩ := DataW.trod_bool ht h
  exact ⟨n, rfl, trivial⟩
theorem opens_string {t : TypeId} (ht : P.underlying t = some .string) : Opens enc P W spare held t Kd.string (fun s => s.size ≤ reachBytes) := by
  intro fuel cs x h hw
  obtain ⟨s, rfl, rfl, _⟩ := DataW.trod_string ht h
  refine ⟨s, rfl, ?_⟩
  have := hw s.data.toList.length (by simp [DataW.weights])
  rwa [Array.length_toList] at this
theorem weights_all {t : TypeId} : ∀ {ds : List (DataW H)} {i : Nat} {d : DataW H}, ds[i]? = some d → ∀ n ∈ d.weights P t, n ∈ DataW.weightsAll P t ds
  | [], i, d, h, _, _ => by simp at h
  | d0 :: r, 0, d, h, n, hn => by
    have : d0 = d := by simpa using h
    subst this
    rw [DataW.weightsAll]; exact List.mem_append_left _ hn
  | d0 :: r, i + 1, d, h, n, hn => by
    rw [DataW.weightsAll]; exact List.mem_append_right _ (weights_all (by simpa using h) n hn)
theorem opens_slice {α : Type} {t e : TypeId} {d : Kd α} {G : α → Prop} {B c : Nat} (q : Nat) (ht : P.underlying t = some (.slice e)) (hB : P.bytesOf e = B) (hc : P.cellsOf e = c) (hz : d.sz = c) (h0 : Nonempty α) (he : Opens enc P W spare held e d G) :
    Opens enc P W spare held t (Kd.slice q d) (fun ys => ys.length * B ≤ reachBytes ∧ ∀ y ∈ ys, G y) := by
  obtain ⟨z⟩ := h0
  intro fuel cs x h hw
  rcases open_slice ht h with ⟨rfl, rfl⟩ | ⟨a, len, cap, m, n, D, Pl, rfl, _, hl, hm, hmm, rfl, hx⟩
  · refine ⟨[], ⟨none, 0, rfl, Nat.le_refl _, rfl, by simp, fun hn => absurd hn (by simp)⟩, by simp, fun y hy => by cases hy⟩
  have hlm : len ≤ m := by rw [hmm]; split <;> omega
  have hW : ∀ i, i < len → ∀ k ∈ (D i).weights P e, k ≤ reachBytes := by
    intro i hi k hk
    refine hw k ?_
    simp only [DataW.weights, ht]
    refine List.mem_cons_of_mem _ (List.mem_append_left _ (weights_all P (i := i) (d := D i) ?_ k hk))
    rw [List.getElem?_map, List.getElem?_range hi]; rfl
  have each : ∀ i, i < len → ∃ y : α × List Value, W.cells? 0 (a.add (i * P.cellsOf e)) (P.cellsOf e) = some y.2 ∧ d.K W y.1 y.2 ∧ G y.1 := by
    intro i hi
    obtain ⟨cs', h1, h2⟩ := hx i (by omega)
    obtain ⟨y, hy, hG⟩ := he n cs' (D i, Pl i) h2 (hW i hi)
    exact ⟨(y, cs'), h1, hy, hG⟩
  haveI : Inhabited (α × List Value) := ⟨(z, [])⟩
  obtain ⟨q', hq⟩ := choose_lt each
  have hlen : ((List.range len).map fun i => (q' i).1).length = len := by simp
  refine ⟨(List.range len).map fun i => (q' i).1, ⟨some a, cap, by rw [hlen], by rw [hlen]; exact hl, ?_⟩, ?_, ?_⟩
  · rw [hlen]
    refine ⟨hlen, by have : maxLen = 9223372036854775807 := rfl; omega, fun _ => ⟨a, rfl, fun j p hj => ?_⟩⟩
    have hjl : j < len := by have := (List.getElem?_eq_some_iff.1 hj).1; simpa using this
    rw [List.getElem?_map, List.getElem?_range hjl] at hj
    have hp : (q' j).1 = p := by simpa using hj
    subst hp
    obtain ⟨h1, h2, _⟩ := hq j hjl
    obtain ⟨_, hcl, hcell⟩ := World.cells?_some h1
    refine ⟨(q' j).2, by rw [hz, ← hc]; exact hcl, h2, fun i u hu => ?_⟩
    have hi : i < P.cellsOf e := by rw [← hcl]; exact (List.getElem?_eq_some_iff.1 hu).1
    have := hcell i hi
    rw [Deep.add_add, hu] at this
    rw [hz, ← hc]; exact this
  · rw [hlen, ← hB]
    have := hw ((len + (m - len)) * P.bytesOf e) (by simp only [DataW.weights, ht]; simp)
    exact Nat.le_trans (Nat.mul_le_mul_right _ (by omega)) this
  · intro y hy
    obtain ⟨i, hi, rfl⟩ := List.mem_map.1 hy
    exact (hq i (List.mem_range.1 hi)).2.2

/-- The fields from the j-th one on. -/
def OpensTail {α : Type} (t : TypeId) (fs : Array Field) (j : Nat) (d : Kd α) (G : α → Prop) : Prop :=
  ∀ (n : Nat) (cs : List Value) (xs : List (DataW H × List MemPlace)), cs.length = P.cellsOf t → (∀ (i : Nat) (f : Field), fs[i]? = some f → DataW.trod enc P W 0 spare held n f.type ((cs.drop f.offset).take (P.cellsOf f.type)) = xs[i]?) →
    xs.length = fs.size → (∀ (i : Nat) (f : Field) (x : DataW H × List MemPlace), fs[i]? = some f → xs[i]? = some x → ∀ k ∈ x.1.weights P f.type, k ≤ reachBytes) → ∃ y f, fs[j]? = some f ∧ d.K W y (cs.drop f.offset) ∧ G y
theorem tail_last {α : Type} {t : TypeId} {fs : Array Field} {j : Nat} {f : Field} {d : Kd α} {G : α → Prop} (hj : fs[j]? = some f) (hc : P.cellsOf t = f.offset + P.cellsOf f.type) (hd : Opens enc P W spare held f.type d G) : OpensTail enc P W spare held t fs j d G := by
  intro n cs xs hl hx hs hw
  have h1 := hx j f hj
  have hlt : j < xs.length := by rw [hs]; exact (Array.getElem?_eq_some_iff.1 hj).1
  rw [List.getElem?_eq_getElem hlt] at h1
  obtain ⟨y, hy, hG⟩ := hd _ _ _ h1 (hw j f _ hj (List.getElem?_eq_getElem hlt))
  rw [List.take_of_length_le (by rw [List.length_drop]; omega)] at hy
  exact ⟨y, f, hj, hy, hG⟩
theorem tail_cons {α β : Type} {t : TypeId} {fs : Array Field} {j : Nat} {f g : Field} {d : Kd α} {d' : Kd β} {G : α → Prop} {G' : β → Prop} (hj : fs[j]? = some f) (hj' : fs[j + 1]? = some g) (ho : g.offset = f.offset + P.cellsOf f.type) (hd : Opens enc P W spare held f.type d G) (hr : OpensTail enc P W spare held t fs (j + 1) d' G') :
    OpensTail enc P W spare held t fs j (Kd.pair d d') (fun y => G y.1 ∧ G' y.2) := by
  intro n cs xs hl hx hs hw
  obtain ⟨y', g', hg', hy', hG'⟩ := hr n cs xs hl hx hs hw
  rw [hj'] at hg'
  obtain rfl : g = g' := by simpa using hg'
  have h1 := hx j f hj
  have hlt : j < xs.length := by rw [hs]; exact (Array.getElem?_eq_some_iff.1 hj).1
  rw [List.getElem?_eq_getElem hlt] at h1
  obtain ⟨y, hy, hG⟩ := hd _ _ _ h1 (hw j f _ hj (List.getElem?_eq_getElem hlt))
  refine ⟨(y, y'), f, hj, ⟨_, _, ?_, hy, hy'⟩, hG, hG'⟩
  rw [ho, ← List.drop_drop, List.take_append_drop]
theorem weights_each_i : ∀ {ts : List TypeId} {ds : List (DataW H)} {i : Nat} {t : TypeId} {d : DataW H}, ts[i]? = some t → ds[i]? = some d → ∀ n ∈ d.weights P t, n ∈ DataW.weightsEach P ts ds := DataW.weights_mem_each
theorem opens_struct {α β : Type} {t : TypeId} {fs : Array Field} {f : Field} {d : Kd α} {G : α → Prop} (g : β → α) (mk : α → β) (hg : ∀ y, g (mk y) = y) (ht : P.underlying t = some (.struct fs)) (hf : fs[0]? = some f) (ho : f.offset = 0) (hr : OpensTail enc P W spare held t fs 0 d G) :
    Opens enc P W spare held t (Kd.iso d g) (fun s => G (g s)) := by
  intro fuel cs x h hw
  obtain ⟨xs, n, _, rfl, hl, hs, hx⟩ := DataW.trod_struct ht h
  obtain ⟨y, f', hf', hy, hG⟩ := hr n cs xs hl hx hs (fun i f x hi hxi k hk => by
    refine hw k ?_
    simp only [DataW.weights, ht]
    refine DataW.weights_mem_each (j := i) (t := f.type) (d := x.1) ?_ ?_ k hk
    · rw [List.getElem?_map, Array.getElem?_toList, hi]; rfl
    · rw [List.getElem?_map, hxi]; rfl)
  rw [hf] at hf'
  obtain rfl : f = f' := by simpa using hf'
  rw [ho, List.drop_zero] at hy
  refine ⟨mk y, ?_, ?_⟩
  · show d.K W (g (mk y)) cs
    rw [hg]; exact hy
  · show G (g (mk y))
    rw [hg]; exact hG
/-- An argument, by its place. -/
theorem opens_arg {α : Type} {t : TypeId} {d : Kd α} {G : α → Prop} (ho : Opens enc P W spare held t d G) {ts : List TypeId} {ds : List (DataW H)} {j : Nat} {x : DataW H} {ps : List MemPlace} {v : Value} (hsz : (DataW.weightsEach P ts ds).all (· ≤ reachBytes) = true)
    (ht : ts[j]? = some t) (hd : ds[j]? = some x) (h : DataW.Trod enc P W 0 spare held t v x ps) : ∃ y, d.K W y v.cells.toList ∧ G y := by
  obtain ⟨fuel, hf⟩ := h
  refine ho fuel _ _ hf fun n hn => ?_
  have := List.all_eq_true.1 hsz n (DataW.weights_mem_each ht hd n hn)
  simpa using this
end
end Go.Proofs.YtfhdiddlloiglaaDoor.Op
