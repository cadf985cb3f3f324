/- Texts of this claim, one behind the other: Open, PAllx0, Opens, HIdx, HRow, HInsA, HInsB, HInsert, HClone, Shelf, Spec, HCheck, StrOrd, HPlace, PAllx6, HAdd, HDelete, HRemove, PAllx7, HRight, HBytes, HPrint, Pure2, PAllx1, PAllx18, PAllx19, PAllx26, PAllx27, PAllx25, PAllx28. -/
import Derived.Deep.Slices
import Derived.ChangeArms
import Derived.SizedLaws
import Derived.OpenShut
import Derived.Test.YtcklpecjcebekaaWWords
import Derived.Test.YtcklpecjcebekaaProg
import Derived.Below
import Derived.Deep.Draws
import Derived.Deep.AppendLies
import Derived.Maps.AppendAt
import Derived.OwnWalk
import Derived.Laws.BytesArg
import Derived.Laws.MakeOwn
import Derived.Laws.OwnMore
import Derived.Deep.OwnRows
import Derived.Tactics
import Derived.Lib.ConvBytes
import Derived.Laws.Slices
import Derived.WalkKit
import Derived.KernelRfl
import Derived.RowKit3
import Derived.Deep.LoopGhost
import Derived.Deep.QuietTactic
import Derived.BigQuiet
import Derived.WideLaws
import Derived.Deep.DeepCutAuto
import Derived.Deep.CutBlock
import Derived.Deep.RegionHeld3
import Derived.Laws.Rows
import Derived.Lib.AppendStr
import Derived.ArgAppend
import Derived.Laws.IdiomCopy
import Derived.OrdersHeld
import Derived.Laws.BitsLemmas
import Derived.RowKit
import Derived.Test.YtcklpecjcebekaaWLast
import Derived.Test.YtcklpecjcebekaaWTab
import Derived.Test.YtcklpecjcebekaaWFour
import Derived.Test.YtcklpecjcebekaaWQPut
import Derived.Test.YtcklpecjcebekaaWApart
import Derived.Test.YtcklpecjcebekaaWArr
import Derived.Test.YtcklpecjcebekaaWZeros
import Derived.Test.YtcklpecjcebekaaWFoot
import Derived.Test.YtcklpecjcebekaaWKept
import Derived.Test.YtcklpecjcebekaaWShare
import Derived.Test.YtcklpecjcebekaaWN
import Derived.Test.YtcklpecjcebekaaWFootNe
import Derived.Test.YtcklpecjcebekaaWAt
import Derived.Test.YtcklpecjcebekaaWEqStruct
import Derived.Test.YtcklpecjcebekaaWRepsOne
import Derived.Test.YtcklpecjcebekaaWInv
import Derived.Test.YtcklpecjcebekaaWInvWords
import Derived.Test.YtcklpecjcebekaaWGuard
import Derived.Test.YtcklpecjcebekaaWNEv
import Derived.Test.YtcklpecjcebekaaWMore
import Derived.ProofKit
import Derived.Shelf.Abstract
import Derived.Shelf.RegionOpen
import Derived.Outline
import Derived.WalkSpells
import Derived.Deep.DeepFit
import Derived.Lib.Hide
import Derived.Lib.QuietBelow
import Derived.Laws.CopyRow
import Derived.Lib.Overlaps
import Derived.Lib.SliceRun
import Derived.Shelf.RegionOpenPlain
import Derived.Laws.Externs
import Derived.Shelf.Spec.SlicesInsert
import Derived.Lib.AppendZeros
import Derived.Laws.CopyOwn
import Derived.Shelf.GgClosure.StringsIndexFunc
import Derived.Ground.GgwProg
import Derived.Shelf.GgClosure.StringsIndexFuncTop
import Derived.Laws.RangeString
import Derived.Laws.RangeAny
import Derived.Lib.Bytealg
import Derived.Lib.Strings
import Derived.Lib.Join
import Derived.RangeFuncNested
import Derived.RangeFuncBound
import Derived.RangeFuncCalls
import Derived.RangeFuncLeaves
import Derived.RangeFuncBox
import Derived.OwnWalkIn
import Derived.TacticsInMore
import Derived.LoopNIn
import Derived.LoopIn
import Derived.Lib.IndexBytes
import Derived.Laws.Strings
import Derived.Sort.Walk0
import Derived.Deep.AppendSrc
section
/- What comes in, opened to the print's own kinds: numbers, texts, slices, structs, whatever lies in them. -/
namespace Go.Proofs.Ytcklpecjcebekaa.Op
open Go.ChangeShapes Go.WideShapes Go.Deep Go.Proofs.YtcklpecjcebekaaW.PrintWords

set_option linter.unusedVariables false
section
variable {H : Type} (enc : TypeId × Value → H) (P : Program) (W : World) (spare : Nat → Bool) (held : Bool)

/-- A datum of that type is read as a value of the kind d, and what G says is so of it. -/
def Opens {α : Type} (t : TypeId) (d : Kd α) (G : α → Prop) : Prop :=
  ∀ fuel cs x, DataW.trod enc P W 0 spare held fuel t cs = some x → (∀ n ∈ x.1.weights P t, n ≤ reachBytes) → ∃ y, d.K W y cs ∧ G y

theorem opens_int {t : TypeId} {k : IntKind} (ht : P.underlying t = some (.int k)) : Opens enc P W spare held t (Kd.int k) (fun n => (Lit.int k n).wf = true) := by
  intro fuel cs x h _
  obtain ⟨n, rfl, _, hw⟩ := DataW.trod_int ht h
  exact ⟨n, rfl, hw⟩
theorem opens_bool {t : TypeId} (ht : P.underlying t = some .bool) : Opens enc P W spare held t Kd.bool (fun _ => True) := by
  intro fuel cs x h _
  obtain ⟨n, rfl, _⟩ := DataW.trod_bool ht h
  exact ⟨n, rfl, trivial⟩
theorem opens_string {t : TypeId} (ht : P.underlying t = some .string) : Opens enc P W spare held t Kd.string (fun s => s.size ≤ reachBytes) := by
  intro fuel cs x h hw
  obtain ⟨s, rfl, rfl, _⟩ := DataW.trod_string ht h
  refine ⟨s, rfl, ?_⟩
  have := hw s.data.toList.length (by simp [DataW.weights])
  rwa [Array.length_toList] at this
theorem weights_all {t : TypeId} : ∀ {ds : List (DataW H)} {i : Nat} {d : DataW H}, ds[i]? = some d → ∀ n ∈ d.weights P t, n ∈ DataW.weightsAll P t ds
  | [], i, d, h, _, _ => by simp at h
  | d0 :: r, 0, d, h, n, hn => by
    have : d0 = d := by simpa using h
    subst this
    rw [DataW.weightsAll]; exact List.mem_append_left _ hn
  | d0 :: r, i + 1, d, h, n, hn => by
    rw [DataW.weightsAll]; exact List.mem_append_right _ (weights_all (by simpa using h) n hn)
theorem opens_slice {α : Type} {t e : TypeId} {d : Kd α} {G : α → Prop} {B c : Nat} (q : Nat) (ht : P.underlying t = some (.slice e)) (hB : P.bytesOf e = B) (hc : P.cellsOf e = c) (hz : d.sz = c) (h0 : Nonempty α) (he : Opens enc P W spare held e d G) :
    Opens enc P W spare held t (Kd.slice q d) (fun ys => ys.length * B ≤ reachBytes ∧ ∀ y ∈ ys, G y) := by
  obtain ⟨z⟩ := h0
  intro fuel cs x h hw
  rcases open_slice ht h with ⟨rfl, rfl⟩ | ⟨a, len, cap, m, n, D, Pl, rfl, _, hl, hm, hmm, rfl, hx⟩
  · refine ⟨[], ⟨none, 0, rfl, Nat.le_refl _, rfl, by simp, fun hn => absurd hn (by simp)⟩, by simp, fun y hy => by cases hy⟩
  have hlm : len ≤ m := by rw [hmm]; split <;> omega
  have hW : ∀ i, i < len → ∀ k ∈ (D i).weights P e, k ≤ reachBytes := by
    intro i hi k hk
    refine hw k ?_
    simp only [DataW.weights, ht]
    refine List.mem_cons_of_mem _ (List.mem_append_left _ (weights_all P (i := i) (d := D i) ?_ k hk))
    rw [List.getElem?_map, List.getElem?_range hi]; rfl
  have each : ∀ i, i < len → ∃ y : α × List Value, W.cells? 0 (a.add (i * P.cellsOf e)) (P.cellsOf e) = some y.2 ∧ d.K W y.1 y.2 ∧ G y.1 := by
    intro i hi
    obtain ⟨cs', h1, h2⟩ := hx i (by omega)
    obtain ⟨y, hy, hG⟩ := he n cs' (D i, Pl i) h2 (hW i hi)
    exact ⟨(y, cs'), h1, hy, hG⟩
  haveI : Inhabited (α × List Value) := ⟨(z, [])⟩
  obtain ⟨q', hq⟩ := choose_lt each
  have hlen : ((List.range len).map fun i => (q' i).1).length = len := by simp
  refine ⟨(List.range len).map fun i => (q' i).1, ⟨some a, cap, by rw [hlen], by rw [hlen]; exact hl, ?_⟩, ?_, ?_⟩
  · rw [hlen]
    refine ⟨hlen, by have : maxLen = 9223372036854775807 := rfl; omega, fun _ => ⟨a, rfl, fun j p hj => ?_⟩⟩
    have hjl : j < len := by have := (List.getElem?_eq_some_iff.1 hj).1; simpa using this
    rw [List.getElem?_map, List.getElem?_range hjl] at hj
    have hp : (q' j).1 = p := by simpa using hj
    subst hp
    obtain ⟨h1, h2, _⟩ := hq j hjl
    obtain ⟨_, hcl, hcell⟩ := World.cells?_some h1
    refine ⟨(q' j).2, by rw [hz, ← hc]; exact hcl, h2, fun i u hu => ?_⟩
    have hi : i < P.cellsOf e := by rw [← hcl]; exact (List.getElem?_eq_some_iff.1 hu).1
    have := hcell i hi
    rw [Deep.add_add, hu] at this
    rw [hz, ← hc]; exact this
  · rw [hlen, ← hB]
    have := hw ((len + (m - len)) * P.bytesOf e) (by simp only [DataW.weights, ht]; simp)
    exact Nat.le_trans (Nat.mul_le_mul_right _ (by omega)) this
  · intro y hy
    obtain ⟨i, hi, rfl⟩ := List.mem_map.1 hy
    exact (hq i (List.mem_range.1 hi)).2.2

/-- The fields from the j-th one on. -/
def OpensTail {α : Type} (t : TypeId) (fs : Array Field) (j : Nat) (d : Kd α) (G : α → Prop) : Prop :=
  ∀ (n : Nat) (cs : List Value) (xs : List (DataW H × List MemPlace)), cs.length = P.cellsOf t → (∀ (i : Nat) (f : Field), fs[i]? = some f → DataW.trod enc P W 0 spare held n f.type ((cs.drop f.offset).take (P.cellsOf f.type)) = xs[i]?) →
    xs.length = fs.size → (∀ (i : Nat) (f : Field) (x : DataW H × List MemPlace), fs[i]? = some f → xs[i]? = some x → ∀ k ∈ x.1.weights P f.type, k ≤ reachBytes) → ∃ y f, fs[j]? = some f ∧ d.K W y (cs.drop f.offset) ∧ G y
theorem tail_last {α : Type} {t : TypeId} {fs : Array Field} {j : Nat} {f : Field} {d : Kd α} {G : α → Prop} (hj : fs[j]? = some f) (hc : P.cellsOf t = f.offset + P.cellsOf f.type) (hd : Opens enc P W spare held f.type d G) : OpensTail enc P W spare held t fs j d G := by
  intro n cs xs hl hx hs hw
  have h1 := hx j f hj
  have hlt : j < xs.length := by rw [hs]; exact (Array.getElem?_eq_some_iff.1 hj).1
  rw [List.getElem?_eq_getElem hlt] at h1
  obtain ⟨y, hy, hG⟩ := hd _ _ _ h1 (hw j f _ hj (List.getElem?_eq_getElem hlt))
  rw [List.take_of_length_le (by rw [List.length_drop]; omega)] at hy
  exact ⟨y, f, hj, hy, hG⟩
theorem tail_cons {α β : Type} {t : TypeId} {fs : Array Field} {j : Nat} {f g : Field} {d : Kd α} {d' : Kd β} {G : α → Prop} {G' : β → Prop} (hj : fs[j]? = some f) (hj' : fs[j + 1]? = some g) (ho : g.offset = f.offset + P.cellsOf f.type) (hd : Opens enc P W spare held f.type d G) (hr : OpensTail enc P W spare held t fs (j + 1) d' G') :
    OpensTail enc P W spare held t fs j (Kd.pair d d') (fun y => G y.1 ∧ G' y.2) := by
  intro n cs xs hl hx hs hw
  obtain ⟨y', g', hg', hy', hG'⟩ := hr n cs xs hl hx hs hw
  rw [hj'] at hg'
  obtain rfl : g = g' := by simpa using hg'
  have h1 := hx j f hj
  have hlt : j < xs.length := by rw [hs]; exact (Array.getElem?_eq_some_iff.1 hj).1
  rw [List.getElem?_eq_getElem hlt] at h1
  obtain ⟨y, hy, hG⟩ := hd _ _ _ h1 (hw j f _ hj (List.getElem?_eq_getElem hlt))
  refine ⟨(y, y'), f, hj, ⟨_, _, ?_, hy, hy'⟩, hG, hG'⟩
  rw [ho, ← List.drop_drop, List.take_append_drop]
theorem weights_each_i : ∀ {ts : List TypeId} {ds : List (DataW H)} {i : Nat} {t : TypeId} {d : DataW H}, ts[i]? = some t → ds[i]? = some d → ∀ n ∈ d.weights P t, n ∈ DataW.weightsEach P ts ds := DataW.weights_mem_each
theorem opens_struct {α β : Type} {t : TypeId} {fs : Array Field} {f : Field} {d : Kd α} {G : α → Prop} (g : β → α) (mk : α → β) (hg : ∀ y, g (mk y) = y) (ht : P.underlying t = some (.struct fs)) (hf : fs[0]? = some f) (ho : f.offset = 0) (hr : OpensTail enc P W spare held t fs 0 d G) :
    Opens enc P W spare held t (Kd.iso d g) (fun s => G (g s)) := by
  intro fuel cs x h hw
  obtain ⟨xs, n, _, rfl, hl, hs, hx⟩ := DataW.trod_struct ht h
  obtain ⟨y, f', hf', hy, hG⟩ := hr n cs xs hl hx hs (fun i f x hi hxi k hk => by
    refine hw k ?_
    simp only [DataW.weights, ht]
    refine DataW.weights_mem_each (j := i) (t := f.type) (d := x.1) ?_ ?_ k hk
    · rw [List.getElem?_map, Array.getElem?_toList, hi]; rfl
    · rw [List.getElem?_map, hxi]; rfl)
  rw [hf] at hf'
  obtain rfl : f = f' := by simpa using hf'
  rw [ho, List.drop_zero] at hy
  refine ⟨mk y, ?_, ?_⟩
  · show d.K W (g (mk y)) cs
    rw [hg]; exact hy
  · show G (g (mk y))
    rw [hg]; exact hG
/-- An argument, by its place. -/
theorem opens_arg {α : Type} {t : TypeId} {d : Kd α} {G : α → Prop} (ho : Opens enc P W spare held t d G) {ts : List TypeId} {ds : List (DataW H)} {j : Nat} {x : DataW H} {ps : List MemPlace} {v : Value} (hsz : (DataW.weightsEach P ts ds).all (· ≤ reachBytes) = true)
    (ht : ts[j]? = some t) (hd : ds[j]? = some x) (h : DataW.Trod enc P W 0 spare held t v x ps) : ∃ y, d.K W y v.cells.toList ∧ G y := by
  obtain ⟨fuel, hf⟩ := h
  refine ho fuel _ _ hf fun n hn => ?_
  have := List.all_eq_true.1 hsz n (DataW.weights_mem_each ht hd n hn)
  simpa using this
end
end Go.Proofs.Ytcklpecjcebekaa.Op
end
section
-- Written by a tool of the kit (print.py) over the laws of this seat at once; Lean checks it.
namespace Go.Proofs.Ytcklpecjcebekaa.PAll
open Go.RowKit Go.Proofs.YtcklpecjcebekaaW.PrintWords Go.Proofs.YtcklpecjcebekaaW.PrintLast Go.Proofs.YtcklpecjcebekaaW.PrintMore
attribute [local go_sem] max2_int min2_int max_two min_two max_three min_three max_four min_four   -- for this text's walks alone
set_option linter.unusedVariables false
set_option linter.unusedSimpArgs false



def errW : Option Int → Value
  | none => .nilIface
  | some c => .iface 0 (.int .i64 c)
theorem errW_none : errW none = .nilIface := rfl
theorem errW_some (c : Int) : errW (some c) = .iface 0 (.int .i64 c) := rfl

theorem info5 : (Try.prog.info? 5).map (fun i => (i.zero, i.size, i.bytes)) = some (some (.int .u8 0), 1, 1) := by kernel_rfl
theorem info37 : (Try.prog.info? 37).map (fun i => (i.zero, i.size, i.bytes)) = some (some (.agg #[(.string ⟨#[]⟩), (.int .i64 0)]), 2, 24) := by kernel_rfl
-- the values' own types
/-! #### struct type 37 -/
structure S37 where
  f0 : ByteArray
  f1 : Int
def z37 : S37 := ⟨(⟨#[]⟩ : ByteArray), (0 : Int)⟩
def k37 : Kd S37 := Kd.iso (Kd.pair Kd.string (Kd.int .i64)) (fun x : S37 => (x.f0, x.f1))
theorem k37_heap : Kd.Heap k37 := Kd.heap_iso _ (Kd.heap_pair Kd.heap_string (Kd.heap_int .i64))
theorem k37_open {w : World} {x : S37} {cs : List Value} (h : k37.K w x cs) : cs = [.string x.f0, .int .i64 x.f1] := by
  obtain ⟨_, _, rfl, rfl, rfl⟩ := h
  exact rfl
theorem k37_openM {w : World} {base : Nat} {ok : Nat → Prop} {x : S37} {cs : List Value} (h : k37.M w base ok x cs) : cs = [.string x.f0, .int .i64 x.f1] := by
  obtain ⟨_, _, rfl, rfl, rfl⟩ := h
  exact rfl
theorem k37_mk (w : World) (x : S37)  : k37.K w x [.string x.f0, .int .i64 x.f1] := ⟨[.string x.f0], [.int .i64 x.f1], rfl, rfl, rfl⟩
theorem k37_mkM (w : World) (base : Nat) (ok : Nat → Prop) (x : S37)  : k37.M w base ok x [.string x.f0, .int .i64 x.f1] := ⟨[.string x.f0], [.int .i64 x.f1], rfl, rfl, rfl⟩
theorem k37_mkF (W : World) (ok : Nat → Prop) (x : S37) : Kd.FK k37 W ok x [.string x.f0, .int .i64 x.f1] := fun W2 _ => k37_mk W2 x
def rd_T37 (xs : List S37) (i : Int) : S37 := xs.getD i.toNat z37
theorem at_T37 {w : World} {A : Option Addr} {n : Nat} {xs : List S37} (h : Kd.C k37 w A n xs) (i : Int) (h0 : 0 ≤ i) (h1 : i < n) : ∃ ad , A = some ad ∧ w.cell? (ad.add (i.toNat * 2)) = some (.string (rd_T37 xs i).f0) ∧ w.cell? ⟨(ad.add (i.toNat * 2)).block, (ad.add (i.toNat * 2)).off + 1, none⟩ = some (.int .i64 (rd_T37 xs i).f1) := by
  obtain ⟨ad, c, e, _, hK, hc0⟩ := Kd.C_get h z37 i h0 h1
  have hc : ∀ j u, c[j]? = some u → w.cell? (ad.add (i.toNat * 2 + j)) = some u := hc0
  obtain rfl := k37_open hK
  exact ⟨ad, e, hc 0 _ rfl, by rw [← add_field _ _ 1 (by omega)]; exact hc 1 _ rfl⟩

end Go.Proofs.Ytcklpecjcebekaa.PAll
end
section
/- What comes in: entries, bytes. -/
namespace Go.Proofs.Ytcklpecjcebekaa
open Go.RowKit Go.Proofs.YtcklpecjcebekaaW.PrintWords Go.Proofs.Ytcklpecjcebekaa.PAll
section
variable {H : Type} (enc : TypeId × Value → H) (W : World) {spare : Nat → Bool} {held : Bool}
theorem opens_name : Op.Opens enc Try.prog W spare held 37 k37 (fun x => x.f0.size ≤ reachBytes ∧ (Lit.int .i64 x.f1).wf = true) :=
  Op.opens_struct enc Try.prog W spare held (fun x : S37 => (x.f0, x.f1)) (fun y => ⟨y.1, y.2⟩) (fun _ => rfl) Try.underlying37 rfl rfl
    (Op.tail_cons enc Try.prog W spare held rfl rfl (by kernel_rfl) (Op.opens_string enc Try.prog W spare held Try.underlying9) (Op.tail_last enc Try.prog W spare held rfl (by kernel_rfl) (Op.opens_int enc Try.prog W spare held Try.underlying3)))
theorem opens_names : Op.Opens enc Try.prog W spare held 22 (Kd.slice 37 k37) (fun ys => ys.length * 24 ≤ reachBytes ∧ ∀ y ∈ ys, y.f0.size ≤ reachBytes ∧ (Lit.int .i64 y.f1).wf = true) :=
  Op.opens_slice enc Try.prog W spare held 37 Try.underlying22 (by kernel_rfl) (by kernel_rfl : Try.prog.cellsOf 37 = 2) rfl ⟨z37⟩ (opens_name enc W)
theorem opens_bytes : Op.Opens enc Try.prog W spare held 24 (Kd.slice 5 (Kd.int .u8)) (fun ys => ys.length * 1 ≤ reachBytes ∧ ∀ y ∈ ys, (Lit.int .u8 y).wf = true) :=
  Op.opens_slice enc Try.prog W spare held 5 Try.underlying24 (by kernel_rfl) (by kernel_rfl : Try.prog.cellsOf 5 = 1) rfl ⟨0⟩ (Op.opens_int enc Try.prog W spare held Try.underlying5)
end
end Go.Proofs.Ytcklpecjcebekaa
end
section
/- slices.IndexFunc at entries, over a closure that only looks. -/
namespace Go.Proofs.Ytcklpecjcebekaa.PAll
open Go.RowKit Go.Shelf Go.Lib Go.Proofs.YtcklpecjcebekaaW.PrintWords
attribute [local go_sem] Oper.semAt_some

/-- The first place at which p holds, or -1. -/
def idxL (p : S37 → Bool) (l : List S37) : Int := match l.findIdx? p with | some i => (i : Int) | none => -1
theorem idxL_none {p : S37 → Bool} {l : List S37} (h : ∀ j, j < l.length → p (rd_T37 l (j : Int)) = false) : idxL p l = -1 := by
  unfold idxL
  have : l.findIdx? p = none := by
    rw [List.findIdx?_eq_none_iff]
    intro x hx
    obtain ⟨j, hj, rfl⟩ := List.getElem_of_mem hx
    have := h j hj
    simpa [rd_T37, List.getD_eq_getElem?_getD, hj] using this
  rw [this]
theorem idxL_some {p : S37 → Bool} {l : List S37} {k : Nat} (hk : k < l.length) (hp : p (rd_T37 l (k : Int)) = true) (h : ∀ j, j < k → p (rd_T37 l (j : Int)) = false) : idxL p l = (k : Int) := by
  unfold idxL
  have : l.findIdx? p = some k := by
    rw [List.findIdx?_eq_some_iff_getElem]
    refine ⟨hk, by simpa [rd_T37, List.getD_eq_getElem?_getD, hk] using hp, fun j hj => ?_⟩
    have hjl : j < l.length := by omega
    have := h j hj
    simpa [rd_T37, List.getD_eq_getElem?_getD, hjl] using this
  rw [this]

theorem bl_trans {w w1 w2 : World} (h : Below w.heap.size w w1) (k : Below w1.heap.size w1 w2) : Below w.heap.size w w2 := h.trans (k.mono h.size)
def enc37 (x : S37) : Value := .agg #[.string x.f0, .int .i64 x.f1]

set_option maxRecDepth 100000 in
set_option maxHeartbeats 2000000 in
theorem idx_calls (g : Nat) (lb : Array Value) (eg : ∀ args w, (callFunc g args).run Try.prog w = .ok (.enter g args) w) (p : S37 → Bool) (A : Option Addr) (c : Nat) (l : List S37) (w : World) (hC : Kd.C k37 w A l.length l)
    (hp : ∀ W x, Below w.heap.size w W → Calls Try.prog g (#[.agg #[.string x.f0, .int .i64 x.f1]] ++ lb) W fun e w' => e = .returned (.bool (p x)) ∧ Below W.heap.size W w') :
    Calls Try.prog 28 #[.slice A l.length c, .func (.func g) #[] lb] w fun e w' => e = .returned (.int .i64 (idxL p l)) ∧ Below w.heap.size w w' := by
  have hu37 := Try.underlying37
  have HC := Lib.hid hC; clear hC
  have HP := Lib.hid hp; clear hp
  have hl : l.length ≤ 9223372036854775807 := HC.out.2.1
  obtain ⟨R, hR⟩ : ∃ R, idxL p l = R := ⟨_, rfl⟩
  rw [hR]
  have HR := Lib.hid hR; clear hR
  go_enter Try.func28, Try.ntmps28
  go_wp2_with fail
  go_loopw [8] (fun i W => ∃ k : Nat, i = .int .i64 (k : Int) ∧ k ≤ l.length ∧ (∀ j, j < k → p (rd_T37 l (j : Int)) = false) ∧ Below w.heap.size w W) (fun i _ => l.length - (intOf i).toNat)
  case atStart => exact ⟨0, rfl, by omega, fun j hj => absurd hj (by omega), Below.refl _ _⟩
  case round =>
    obtain ⟨k, rfl, hk, hF, HB⟩ := hrel
    by_cases hlt : k < l.length
    · have t1 : decide ((k : Int) < (l.length : Int)) = true := decide_eq_true (by omega)
      have t3 : (k : Int) < (l.length : Int) := by omega
      obtain ⟨ad, rfl, h0, h1⟩ := at_T37 HC.out (k : Int) (by omega) (by omega)
      have g0 := (HB.cell (World.block_lt_of_cell? w _ h0)).trans h0
      have g1 := (HB.cell (World.block_lt_of_cell? w _ h1)).trans h1
      have hcl := HP.out wr (rd_T37 l (k : Int)) HB
      have hwk : wrap64 ((k : Int) + 1) = ((k + 1 : Nat) : Int) := by unfold wrap64; omega
      clear h0 h1
      simp only [Int.toNat_natCast] at g0 g1
      obtain ⟨x, hx⟩ : ∃ x, x = rd_T37 l (k : Int) := ⟨_, rfl⟩
      rw [← hx] at g0 g1 hcl
      cases hpk : p x with
      | true =>
        rw [hpk] at hcl
        have hv : idxL p l = (k : Int) := idxL_some hlt (by rw [← hx]; exact hpk) hF
        have HV := Lib.hid (HR.out.symm.trans hv)
        clear hF hx hv
        go_wp2_with fail
        refine hcl.mono ?_
        rintro e w1 ⟨rfl, hb⟩
        replace HB := bl_trans HB hb
        go_wp2
        go_ret
        exact ⟨by rw [HV.out]; rfl, HB⟩
      | false =>
        rw [hpk] at hcl
        have hF' : ∀ j, j < k + 1 → p (rd_T37 l (j : Int)) = false := by
          intro j hj
          by_cases e : j = k
          · subst e; rw [← hx]; exact hpk
          · exact hF j (by omega)
        have HF := Lib.hid hF'
        clear hF hF' hx
        go_wp2_with fail
        refine hcl.mono ?_
        rintro e w1 ⟨rfl, hb⟩
        replace HB := bl_trans HB hb
        go_wp2
        exact ⟨⟨k + 1, rfl, by omega, HF.out, HB⟩, by simp [intOf]; omega⟩
    · have hkl : k = l.length := by omega
      have t1 : decide ((k : Int) < (l.length : Int)) = false := decide_eq_false (by omega)
      have hv : idxL p l = -1 := idxL_none (by rw [← hkl]; exact hF)
      have HV := Lib.hid (HR.out.symm.trans hv)
      clear hv
      go_wp2
      go_ret
      exact ⟨by rw [HV.out]; rfl, HB⟩
end Go.Proofs.Ytcklpecjcebekaa.PAll
end
section
/- Rows of entries as cells; the builtin copy at elements of several cells; slices.Clone at entries. -/
namespace Go
variable {P : Program}
theorem Proofs.Ytcklpecjcebekaa.run_copy_rowN (w : World) (dT sT ty elem : TypeId) (sz g o dLen dCap : Nat) (a : Addr) (sLen sCap : Nat) (cur : Array Value) (t : TypeId) (cs : List Value) (n : Nat)
    (hu : P.underlying dT = some (.slice elem)) (hs : (P.info? elem).map (·.size) = some sz)
    (hg : w.heap[g]? = some (.cells cur t (0, 0))) (hn : n = Nat.min sLen dLen) (hcs : cs.length = n * sz)
    (hsrc : ∀ j v, cs[j]? = some v → w.cell? (a.add j) = some v) (hfit : o + cs.length ≤ cur.size) (h1 : ∀ v ∈ cs, v.oneCell' = true) :
    (Builtin.copy_ #[dT, sT] ty #[.slice (some ⟨g, o, none⟩) dLen dCap, .slice (some a) sLen sCap]).run P w =
      .ok (goInt n) (w.setRow g (cur.toList.take o ++ cs ++ cur.toList.drop (o + cs.length)).toArray) := by
  have hl := run_loadCells_list (P := P) w a cs hsrc
  have hst := run_storeCells_at P g o t cs 0 cur w hg (by simpa using hfit) h1
  rw [hcs] at hl
  cases hq : P.info? elem with
  | none => simp [hq] at hs
  | some i =>
    have hi : i.size = sz := by simpa [hq] using hs
    simp [Builtin.copy_, run_underlying hu, Builtin.lenOf, Builtin.firstCells, sizeOf, typeInfo, hq, hi, ← hn, hl, hst]
end Go
namespace Go.Proofs.Ytcklpecjcebekaa.PAll
open Go.RowKit Go.Shelf Go.Lib Go.Proofs.YtcklpecjcebekaaW.PrintWords Go.Proofs.YtcklpecjcebekaaW.PrintLast Go.Proofs.YtcklpecjcebekaaW.PrintMore
attribute [local go_sem] Oper.semAt_some
set_option linter.unusedVariables false
set_option linter.unusedSimpArgs false

def cellsOf (l : List S37) : List Value := l.flatMap fun x => [.string x.f0, .int .i64 x.f1]
theorem cellsOf_length (l : List S37) : (cellsOf l).length = l.length * 2 := by
  induction l with
  | nil => rfl
  | cons x r ih => simp only [cellsOf, List.flatMap_cons, List.length_append, List.length_cons, List.length_nil] at ih ⊢; omega
theorem cellsOf_append (a b : List S37) : cellsOf (a ++ b) = cellsOf a ++ cellsOf b := by simp [cellsOf]
theorem cellsOf_one (l : List S37) : ∀ v ∈ cellsOf l, v.oneCell' = true := by
  intro v hv
  obtain ⟨x, _, hx⟩ := List.mem_flatMap.1 hv
  simp at hx
  rcases hx with rfl | rfl <;> rfl
theorem cellsOf_take (l : List S37) (k : Nat) : (cellsOf l).take (k * 2) = cellsOf (l.take k) := by
  induction l generalizing k with
  | nil => simp [cellsOf]
  | cons x r ih =>
    cases k with
    | zero => simp [cellsOf]
    | succ k =>
      have e : (k + 1) * 2 = k * 2 + 1 + 1 := by omega
      rw [e]
      show List.take _ (.string x.f0 :: .int .i64 x.f1 :: cellsOf r) = _
      rw [List.take_succ_cons, List.take_succ_cons, ih]; rfl
theorem cellsOf_drop (l : List S37) (k : Nat) : (cellsOf l).drop (k * 2) = cellsOf (l.drop k) := by
  induction l generalizing k with
  | nil => simp [cellsOf]
  | cons x r ih =>
    cases k with
    | zero => simp [cellsOf]
    | succ k =>
      have e : (k + 1) * 2 = k * 2 + 1 + 1 := by omega
      rw [e]
      show List.drop _ (.string x.f0 :: .int .i64 x.f1 :: cellsOf r) = _
      rw [List.drop_succ_cons, List.drop_succ_cons, ih]; rfl
theorem reps_cells {w : World} {base : Nat} {ok : Nat → Prop} : ∀ {l : List S37} {cs : List Value}, Reps (k37.M w base ok) 2 l cs → cs = cellsOf l
  | [], cs, h => by have := h.1; simp at this; rw [this]; rfl
  | x :: l, cs, h => by
    have h1 := h.1
    have h2 := k37_openM (h.2 0 x rfl)
    rw [Nat.zero_mul, List.drop_zero] at h2
    have h3 : Reps (k37.M w base ok) 2 l (cs.drop 2) := by
      refine ⟨by rw [List.length_drop, h1, List.length_cons]; omega, fun j p hj => ?_⟩
      have := h.2 (j + 1) p (by simpa using hj)
      rw [List.drop_drop]
      rwa [show 2 + j * 2 = (j + 1) * 2 by omega]
    have h4 := reps_cells h3
    rw [← List.take_append_drop 2 cs, h2, h4]; rfl
theorem cells_reps (w : World) (base : Nat) (ok : Nat → Prop) (l : List S37) : Reps (k37.M w base ok) 2 l (cellsOf l) := by
  refine ⟨cellsOf_length l, fun j p hj => ?_⟩
  have hjl : j < l.length := (List.getElem?_eq_some_iff.1 hj).1
  rw [cellsOf_drop, List.drop_eq_getElem_cons hjl, show l[j] = p from (List.getElem?_eq_some_iff.1 hj).2]
  exact k37_mkM w base ok p

/-- A row of the call's own, told as cells. -/
theorem own_of_R {w : World} {base : Nat} {ok : Nat → Prop} {v : Value} {l : List S37} (h : Kd.R k37 37 w base ok v l) : w.ownsRow base 37 2 v l.length (cellsOf l) := by
  obtain ⟨_, inner, ho, hr⟩ := h
  rw [← reps_cells hr]; exact ho
theorem R_of_own {w : World} {base : Nat} {v : Value} {l : List S37} (h : w.ownsRow base 37 2 v l.length (cellsOf l)) : Kd.R k37 37 w base (fun _ => True) v l :=
  ⟨fun _ _ => trivial, cellsOf l, h, cells_reps _ _ _ _⟩
end Go.Proofs.Ytcklpecjcebekaa.PAll
end
section
/- slices.Insert at entries, one new entry: there is room, in place. -/
namespace Go.Proofs.Ytcklpecjcebekaa.PAll
open Go.RowKit Go.Shelf Go.Lib Go.Proofs.YtcklpecjcebekaaW.PrintWords Go.Proofs.YtcklpecjcebekaaW.PrintLast Go.Proofs.YtcklpecjcebekaaW.PrintMore
set_option linter.unusedVariables false
set_option linter.unusedSimpArgs false

theorem size37 : (Try.prog.info? 37).map (·.size) = some 2 := by kernel_rfl
theorem add_lit (g o j : Nat) : (⟨g, o, none⟩ : Addr).add j = ⟨g, o + j, none⟩ := by unfold Addr.add; split <;> simp_all
theorem cell_row {w : World} {g : Nat} {cur : Array Value} {t : TypeId} (hg : w.heap[g]? = some (.cells cur t (0, 0))) (j : Nat) : w.cell? ⟨g, j, none⟩ = cur[j]? := by simp [World.cell?, hg]

set_option maxHeartbeats 4000000 in
set_option maxRecDepth 100000 in
theorem insert_room (w : World) (g cap : Nat) (cur : Array Value) (l : List S37) (k : Nat) (x : S37) (vb vc : Nat)
    (hg : w.heap[g]? = some (.cells cur 37 (0, 0))) (hk : k < l.length) (hroom : l.length + 1 ≤ cap) (hm : cap ≤ 9223372036854775807) (hcs : cur.size = cap * 2) (htake : cur.toList.take (l.length * 2) = cellsOf l)
    (hx : w.heap[vb]? = some (.cells #[.string x.f0, .int .i64 x.f1] 37 (0, 0))) (hvb : vb ≠ g) :
    Calls Try.prog 30 #[.slice (some ⟨g, 0, none⟩) l.length cap, .int .i64 (k : Int), .slice (some ⟨vb, 0, none⟩) 1 vc] w fun e w' =>
      e = .returned (.slice (some ⟨g, 0, none⟩) (l.length + 1) cap) ∧ ∃ cur' : Array Value, w' = w.drew.setRow g cur' ∧ cur'.size = cap * 2 ∧ cur'.toList.take ((l.length + 1) * 2) = cellsOf (l.take k ++ x :: l.drop k) := by
  obtain ⟨n, hn⟩ : ∃ n, n = l.length := ⟨_, rfl⟩
  have hov : ∀ lb cb, (callFunc 41 #[.slice (some ⟨vb, 0, none⟩) 1 vc, .slice (some ⟨g, (k + 1) * 2, none⟩) lb cb]).run Try.prog w = .ok (.value (.bool false)) w := fun lb cb => by
    rw [run_callFunc_extern Try.func41 (by kernel_rfl) (by kernel_rfl) (by kernel_rfl) (e := Extern.SlicesOverlaps.overlaps #[22, 22] #[4]) (by kernel_rfl),
      Lib.run_overlaps_apart w 22 4 37 Try.underlying22 2 Try.sizeOf37 ⟨vb, 0, none⟩ ⟨g, (k + 1) * 2, none⟩ 1 vc lb cb hvb 37 37 2 cur.size (by simp [World.shape?, hx]) (by simp [World.shape?, hg]) (by omega) (by simp [World.frozen?, hx]) (by simp [World.frozen?, hx])]
    rfl
  rw [← hn] at hk hroom htake
  have hcl := cellsOf_length l
  rw [← hn] at hcl
  obtain ⟨C, hC⟩ : ∃ C, C = cellsOf l := ⟨_, rfl⟩
  rw [← hC] at htake hcl
  have h1C : ∀ v ∈ C, v.oneCell' = true := by rw [hC]; exact cellsOf_one l
  -- the first copy
  obtain ⟨cur1, hcur1⟩ : ∃ c, c = (cur.toList.take ((k + 1) * 2) ++ C.drop (k * 2) ++ cur.toList.drop ((k + 1) * 2 + (C.drop (k * 2)).length)).toArray := ⟨_, rfl⟩
  have hgd : w.drew.heap[g]? = some (.cells cur 37 (0, 0)) := hg
  have hcp1 : ∀ ty dc sc, (Builtin.copy_ #[22, 22] ty #[.slice (some ⟨g, (k + 1) * 2, none⟩) (n - k) dc, .slice (some ⟨g, k * 2, none⟩) (n + 1 - k) sc]).run Try.prog w.drew = .ok (goInt ((n - k : Nat) : Int)) (w.drew.setRow g cur1) := fun ty dc sc => by
    rw [hcur1]
    refine run_copy_rowN w.drew 22 22 ty 37 2 g ((k + 1) * 2) (n - k) dc ⟨g, k * 2, none⟩ (n + 1 - k) sc cur 37 (C.drop (k * 2)) (n - k) Try.underlying22 size37 hgd (by simp only [Nat.min_def]; split <;> omega) (by rw [List.length_drop, hcl]; omega) ?_ (by rw [List.length_drop, hcl]; omega) (fun v hv => h1C v (List.mem_of_mem_drop hv))
    intro j v hj
    rw [add_lit, cell_row hgd, ← Array.getElem?_toList]
    rw [List.getElem?_drop, ← htake] at hj
    rw [← hj, List.getElem?_take]
    have := (List.getElem?_eq_some_iff.1 hj).1
    rw [List.length_take] at this
    rw [if_pos (by omega)]
  have hs1 : cur1.size = cap * 2 := by
    rw [hcur1]
    simp only [List.size_toArray, List.length_append, List.length_take, List.length_drop, Array.length_toList, hcl, hcs]
    omega
  have hg1 : ∀ W : World, (W.heap = (w.drew.setRow g cur1).heap) → W.heap[g]? = some (.cells cur1 37 (0, 0)) := fun W hW => by rw [hW]; exact setRow_heap _ g cur cur1 37 _ hgd
  obtain ⟨cur2, hcur2⟩ : ∃ c, c = (cur1.toList.take (k * 2) ++ ([.string x.f0, .int .i64 x.f1] : List Value) ++ cur1.toList.drop (k * 2 + 2)).toArray := ⟨_, rfl⟩
  have hcp2 : ∀ W : World, (W.heap = (w.drew.setRow g cur1).heap) → ∀ ty dc, (Builtin.copy_ #[22, 22] ty #[.slice (some ⟨g, k * 2, none⟩) (n + 1 - k) dc, .slice (some ⟨vb, 0, none⟩) 1 vc]).run Try.prog W = .ok (goInt 1) (W.setRow g cur2) := fun W hW ty dc => by
    rw [hcur2]
    refine run_copy_rowN W 22 22 ty 37 2 g (k * 2) (n + 1 - k) dc ⟨vb, 0, none⟩ 1 vc cur1 37 [.string x.f0, .int .i64 x.f1] 1 Try.underlying22 size37 (hg1 W hW) (by simp only [Nat.min_def]; split <;> omega) rfl ?_ (by simp [hs1]; omega) (by simp [Value.oneCell'])
    intro j v hj
    have hxW : W.heap[vb]? = some (.cells #[.string x.f0, .int .i64 x.f1] 37 (0, 0)) := by rw [hW, setRow_other _ _ _ _ hvb]; exact hx
    rw [add_lit, cell_row hxW, ← Array.getElem?_toList, Nat.zero_add]
    exact hj
  have hs2 : cur2.size = cap * 2 := by
    rw [hcur2]
    simp only [List.size_toArray, List.length_append, List.length_take, List.length_drop, Array.length_toList, List.length_cons, List.length_nil, hs1]
    omega
  have ht2 : cur2.toList.take ((n + 1) * 2) = cellsOf (l.take k ++ x :: l.drop k) := by
    have e1 : cur1.toList.take (k * 2) = C.take (k * 2) := by
      rw [hcur1, List.append_assoc]
      show List.take (k * 2) (cur.toList.take ((k + 1) * 2) ++ _) = _
      rw [List.take_append_of_le_length (by rw [List.length_take, Array.length_toList]; omega), List.take_take, ← htake, List.take_take]
      congr 1; omega
    have e2 : cur1.toList.drop (k * 2 + 2) = C.drop (k * 2) ++ cur.toList.drop ((k + 1) * 2 + (C.drop (k * 2)).length) := by
      rw [hcur1, List.append_assoc]
      have : (cur.toList.take ((k + 1) * 2)).length = k * 2 + 2 := by rw [List.length_take, Array.length_toList]; omega
      show List.drop (k * 2 + 2) (cur.toList.take ((k + 1) * 2) ++ _) = _
      rw [← this, List.drop_left]
    rw [hcur2, e1, e2]
    show List.take ((n + 1) * 2) (C.take (k * 2) ++ ([.string x.f0, .int .i64 x.f1] : List Value) ++ (C.drop (k * 2) ++ _)) = _
    rw [← List.append_assoc]
    have hlen : (C.take (k * 2) ++ ([.string x.f0, .int .i64 x.f1] : List Value) ++ C.drop (k * 2)).length = (n + 1) * 2 := by
      simp only [List.length_append, List.length_take, List.length_drop, List.length_cons, List.length_nil, hcl]; omega
    rw [← hlen, List.take_left, hC, cellsOf_take, cellsOf_drop, cellsOf_append]
    simp [cellsOf]
  have HT2 := Lib.hid ht2
  rw [← hn]
  have p1 : ¬ ((k : Int) = (n : Int)) := by omega
  have p2 : (k : Int) ≤ (n : Int) := by omega
  have p3 : ¬ (cap = k) := by omega
  have p4 : ¬ (cap = k + 1) := by omega
  have p5 : ¬ ((cap : Int) < (n : Int) + 1) := by omega
  have p6 : (n : Int) + 1 ≤ (cap : Int) := by omega
  have p7 : (k : Int) + 1 ≤ (n : Int) + 1 := by omega
  have p8 : (k : Int) ≤ (n : Int) + 1 := by omega
  have q1 : IntKind.i64.wrap ((n : Int) + 1) = (n : Int) + 1 := by rw [IntKind.wrap_i64]; omega
  have q2 : IntKind.i64.wrap ((k : Int) + 1) = (k : Int) + 1 := by rw [IntKind.wrap_i64]; omega
  have q3 : ((n : Int) + 1).toNat = n + 1 := by omega
  have q4 : ((k : Int) + 1).toNat = k + 1 := by omega
  have p9 : 0 ≤ (k : Int) + 1 := by omega
  have mixed : Try.prog.follows .mixedOrders = true := by kernel_rfl
  have hz := Try.sizeOf37
  clear hcur1 hcur2 ht2 htake hC h1C hcl hx hg hgd hn
  go_enter Try.func30, Try.ntmps30
  go_wp2_with (simp only [hov])
  go_region_law_o (refine step_copy_runI rfl _ _ 22 22 rfl _ _ (by simp [Act.eval, Act.put]) (by simp [Act.eval, Act.put]) (hcp1 _ _ _) ?_)
  go_wp2_with (at_builtin; refine wpList_copy_runI _ rfl _ _ 22 22 rfl _ _ rfl rfl (hcp2 _ rfl _ _) ?_)
  go_ret
  exact ⟨rfl, cur2, setRow_setRow _ _ _ _, hs2, HT2.out⟩
end Go.Proofs.Ytcklpecjcebekaa.PAll
end
section
/- slices.Insert at entries, one new entry: no room; at the end. -/
namespace Go.Proofs.Ytcklpecjcebekaa.PAll
open Go.RowKit Go.Shelf Go.Lib Go.Proofs.YtcklpecjcebekaaW.PrintWords Go.Proofs.YtcklpecjcebekaaW.PrintLast Go.Proofs.YtcklpecjcebekaaW.PrintMore
set_option linter.unusedVariables false
set_option linter.unusedSimpArgs false

def z37v : Value := .agg #[.string ⟨#[]⟩, .int .i64 0]
/-- append(s, make([]T, m)...) where there is no room. -/
theorem zeros_grow (w : World) (ty : TypeId) (a : Addr) (i cap m : Nat) (olds : List Value) (hfo : (Builtin.firstCells 2 i (.slice (some a) i cap)).run Try.prog w.drew = .ok olds.toArray w.drew) (hm : 0 < m) (hcap : cap < i + m) (hbytes : (i + m) * 24 ≤ 140737488355328) :
    (Builtin.append_ #[22, 3] ty #[.slice (some a) i cap, .int .i64 (m : Int)]).run Try.prog w =
      .ok (.slice (some ⟨w.heap.size, 0, none⟩) (i + m) (grownCap w (i + m) cap 37)) (w.drew.alloc (.cells (olds.toArray ++ Builtin.zeroCells z37v.cells m ++ Builtin.zeroCells z37v.cells (grownCap w (i + m) cap 37 - (i + m))) 37)) := by
  obtain ⟨i0, hi, hz0, hz1, hz2⟩ := info_parts info37
  have hn : ¬ (i + m ≤ cap) := by omega
  have hw : IntKind.i64.wrap (m : Int) = m := by rw [IntKind.wrap_i64]; omega
  have hneg : ¬ ((m : Int) < 0) := by omega
  have hbig : ¬ (281474976710656 < (m : Int) * (i0.bytes : Int)) := by rw [hz2]; omega
  have h63' : ¬ (9223372036854775807 < ((i : Int) + (m : Int))) := by omega
  have hfit := growslice_fits hcap hbytes
  have h48' : ¬ (281474976710656 < Builtin.nextslicecap (i + m) cap * i0.bytes) := by rw [hz2]; omega
  have hmz : ¬ (m * i0.size = 0) := by rw [hz1]; omega
  rw [← hz1] at hfo
  have ht := Try.underlying22
  have hti := Try.underlying3
  simp [Builtin.append_, run_underlying ht, run_underlying hti, sizeOf, typeInfo, zeroValue, hi, hz0, asInt, asIntOf, hw, hneg, hbig, hn, h63', h48', Question.forced, hfo, newRow, grownCap, hmz, z37v]

set_option maxHeartbeats 4000000 in
set_option maxRecDepth 100000 in
theorem insert_grow (w : World) (g cap : Nat) (cur : Array Value) (l : List S37) (k : Nat) (x : S37) (vb vc : Nat)
    (hg : w.heap[g]? = some (.cells cur 37 (0, 0))) (hk : k < l.length) (hcap : l.length ≤ cap) (hno : cap < l.length + 1) (hl : l.length ≤ 1073741824) (hcs : cur.size = cap * 2) (htake : cur.toList.take (l.length * 2) = cellsOf l)
    (hx : w.heap[vb]? = some (.cells #[.string x.f0, .int .i64 x.f1] 37 (0, 0))) :
    Calls Try.prog 30 #[.slice (some ⟨g, 0, none⟩) l.length cap, .int .i64 (k : Int), .slice (some ⟨vb, 0, none⟩) 1 vc] w fun e w' =>
      ∃ (c2 : Nat) (cur' : Array Value), e = .returned (.slice (some ⟨w.heap.size, 0, none⟩) (l.length + 1) c2) ∧ w'.heap[w.heap.size]? = some (.cells cur' 37 (0, 0)) ∧ l.length + 1 ≤ c2 ∧ c2 ≤ maxLen ∧ cur'.size = c2 * 2 ∧ cur'.toList.take ((l.length + 1) * 2) = cellsOf (l.take k ++ x :: l.drop k) ∧ Below w.heap.size w w' := by
  obtain ⟨n, hn⟩ : ∃ n, n = l.length := ⟨_, rfl⟩
  rw [← hn] at hk hcap hno hl htake
  have hcn : cap = n := by omega
  subst hcn
  have hcl := cellsOf_length l
  rw [← hn] at hcl
  obtain ⟨C, hC⟩ : ∃ C, C = cellsOf l := ⟨_, rfl⟩
  rw [← hC] at htake hcl
  have hcur : cur.toList = C := by rw [← htake, List.take_of_length_le (by rw [Array.length_toList]; omega)]
  have h1C : ∀ v ∈ C, v.oneCell' = true := by rw [hC]; exact cellsOf_one l
  have hlg : g < w.heap.size := (Array.getElem?_eq_some_iff.1 hg).1
  have hlv : vb < w.heap.size := (Array.getElem?_eq_some_iff.1 hx).1
  obtain ⟨h, hh⟩ : ∃ h, h = w.heap.size := ⟨_, rfl⟩
  -- the new row
  have hfo : (Builtin.firstCells 2 k (.slice (some ⟨g, 0, none⟩) k cap)).run Try.prog w.drew = .ok (C.take (k * 2)).toArray w.drew := by
    refine run_firstCells_some (P := Try.prog) w.drew 2 k ⟨g, 0, none⟩ k cap (C.take (k * 2)) (by rw [List.length_take, hcl]; omega) ?_
    intro j v hj
    have hgd : w.drew.heap[g]? = some (.cells cur 37 (0, 0)) := hg
    rw [add_lit, cell_row hgd, ← Array.getElem?_toList, hcur, Nat.zero_add]
    rw [List.getElem?_take] at hj
    split at hj
    · exact hj
    · cases hj
  have hek : k + (cap + 1 - k) = cap + 1 := by omega
  obtain ⟨c2, hc2⟩ : ∃ c2, c2 = grownCap w (k + (cap + 1 - k)) cap 37 := ⟨_, rfl⟩
  have hge := grownCap_ge w (k + (cap + 1 - k)) cap 37
  have hcm := grownCap_le_maxLen w (k + (cap + 1 - k)) cap 37 (by simp only [maxLen]; omega)
  rw [← hc2, hek] at hge
  rw [← hc2] at hcm
  obtain ⟨cur0, hcur0⟩ : ∃ c, c = (C.take (k * 2)).toArray ++ Builtin.zeroCells z37v.cells (cap + 1 - k) ++ Builtin.zeroCells z37v.cells (c2 - (k + (cap + 1 - k))) := ⟨_, rfl⟩
  have hap : ∀ ty, (Builtin.append_ #[22, 3] ty #[.slice (some ⟨g, 0, none⟩) k cap, .int .i64 ((cap + 1 - k : Nat) : Int)]).run Try.prog w = .ok (.slice (some ⟨h, 0, none⟩) (cap + 1) c2) (w.drew.alloc (.cells cur0 37)) := fun ty => by
    rw [zeros_grow w ty ⟨g, 0, none⟩ k cap (cap + 1 - k) _ hfo (by omega) (by omega) (by omega), ← hc2, hcur0, hek, hh]
  have hzs : ∀ q, (Builtin.zeroCells z37v.cells q).size = q * 2 := fun q => by rw [size_zeroCells]; rfl
  have hs0 : cur0.size = c2 * 2 := by
    rw [hcur0]
    simp only [Array.size_append, hzs, List.size_toArray, List.length_take, hcl]
    omega
  have ht0 : cur0.toList.take (k * 2) = C.take (k * 2) := by
    rw [hcur0]
    simp only [Array.toList_append, List.append_assoc]
    rw [List.take_append_of_le_length (by rw [List.length_take, hcl]; omega), List.take_take]
    congr 1; omega
  have hg0 : ∀ W : World, W.heap = (w.drew.alloc (.cells cur0 37)).heap → W.heap[h]? = some (.cells cur0 37 (0, 0)) := fun W hW => by rw [hW, hh]; exact heap_alloc_new w.drew _
  have hold : ∀ W : World, W.heap = (w.drew.alloc (.cells cur0 37)).heap → ∀ b, b < w.heap.size → W.heap[b]? = w.heap[b]? := fun W hW b hb => by rw [hW]; exact heap_alloc_old w.drew _ hb
  -- the copies
  obtain ⟨cur1, hcur1⟩ : ∃ c, c = (cur0.toList.take (k * 2) ++ ([.string x.f0, .int .i64 x.f1] : List Value) ++ cur0.toList.drop (k * 2 + 2)).toArray := ⟨_, rfl⟩
  have hcp1 : ∀ W : World, W.heap = (w.drew.alloc (.cells cur0 37)).heap → ∀ ty dc, (Builtin.copy_ #[22, 22] ty #[.slice (some ⟨h, k * 2, none⟩) (cap + 1 - k) dc, .slice (some ⟨vb, 0, none⟩) 1 vc]).run Try.prog W = .ok (goInt 1) (W.setRow h cur1) := fun W hW ty dc => by
    rw [hcur1]
    refine run_copy_rowN W 22 22 ty 37 2 h (k * 2) (cap + 1 - k) dc ⟨vb, 0, none⟩ 1 vc cur0 37 [.string x.f0, .int .i64 x.f1] 1 Try.underlying22 size37 (hg0 W hW) (by simp only [Nat.min_def]; split <;> omega) rfl ?_ (by simp [hs0]; omega) (by simp [Value.oneCell'])
    intro j v hj
    have hxW : W.heap[vb]? = some (.cells #[.string x.f0, .int .i64 x.f1] 37 (0, 0)) := by rw [hold W hW vb hlv]; exact hx
    rw [add_lit, cell_row hxW, ← Array.getElem?_toList, Nat.zero_add]
    exact hj
  have hs1 : cur1.size = c2 * 2 := by
    rw [hcur1]
    simp only [List.size_toArray, List.length_append, List.length_take, List.length_drop, Array.length_toList, List.length_cons, List.length_nil, hs0]
    omega
  have hne : g ≠ h := by omega
  have hnv : vb ≠ h := by omega
  obtain ⟨cur2, hcur2⟩ : ∃ c, c = (cur1.toList.take ((k + 1) * 2) ++ C.drop (k * 2) ++ cur1.toList.drop ((k + 1) * 2 + (C.drop (k * 2)).length)).toArray := ⟨_, rfl⟩
  have hcp2 : ∀ W : World, W.heap = ((w.drew.alloc (.cells cur0 37)).setRow h cur1).heap → ∀ ty dc sc, (Builtin.copy_ #[22, 22] ty #[.slice (some ⟨h, (k + 1) * 2, none⟩) (cap - k) dc, .slice (some ⟨g, k * 2, none⟩) (cap - k) sc]).run Try.prog W = .ok (goInt ((cap - k : Nat) : Int)) (W.setRow h cur2) := fun W hW ty dc sc => by
    have hgW : W.heap[h]? = some (.cells cur1 37 (0, 0)) := by rw [hW]; exact setRow_heap _ h cur0 cur1 37 _ (hg0 _ rfl)
    rw [hcur2]
    refine run_copy_rowN W 22 22 ty 37 2 h ((k + 1) * 2) (cap - k) dc ⟨g, k * 2, none⟩ (cap - k) sc cur1 37 (C.drop (k * 2)) (cap - k) Try.underlying22 size37 hgW (by simp) (by rw [List.length_drop, hcl]; omega) ?_ (by rw [List.length_drop, hcl]; omega) (fun v hv => h1C v (List.mem_of_mem_drop hv))
    intro j v hj
    have hgg : W.heap[g]? = some (.cells cur 37 (0, 0)) := by rw [hW, setRow_other _ _ _ _ hne, hold _ rfl g hlg]; exact hg
    rw [add_lit, cell_row hgg, ← Array.getElem?_toList, hcur]
    rwa [List.getElem?_drop] at hj
  have hs2 : cur2.size = c2 * 2 := by
    rw [hcur2]
    simp only [List.size_toArray, List.length_append, List.length_take, List.length_drop, Array.length_toList, hcl, hs1]
    omega
  have ht2 : cur2.toList.take ((cap + 1) * 2) = cellsOf (l.take k ++ x :: l.drop k) := by
    have e1 : cur1.toList.take ((k + 1) * 2) = C.take (k * 2) ++ [.string x.f0, .int .i64 x.f1] := by
      rw [hcur1, ht0]
      have : (C.take (k * 2) ++ ([.string x.f0, .int .i64 x.f1] : List Value)).length = (k + 1) * 2 := by simp only [List.length_append, List.length_take, List.length_cons, List.length_nil, hcl]; omega
      show List.take ((k + 1) * 2) (C.take (k * 2) ++ ([.string x.f0, .int .i64 x.f1] : List Value) ++ _) = _
      rw [← this, List.take_left]
    rw [hcur2, e1]
    show List.take ((cap + 1) * 2) (C.take (k * 2) ++ [.string x.f0, .int .i64 x.f1] ++ C.drop (k * 2) ++ _) = _
    have hlen : (C.take (k * 2) ++ ([.string x.f0, .int .i64 x.f1] : List Value) ++ C.drop (k * 2)).length = (cap + 1) * 2 := by
      simp only [List.length_append, List.length_take, List.length_drop, List.length_cons, List.length_nil, hcl]; omega
    rw [← hlen, List.take_left, hC, cellsOf_take, cellsOf_drop, cellsOf_append]
    simp [cellsOf]
  have HT2 := Lib.hid ht2
  have HBB : Below w.heap.size w (((w.alloc (.cells cur0 37)).drew.setRow h cur1)) := below_setRow (below_drew1 ((Below.refl _ w).alloc (Nat.le_refl _) _)) (Nat.le_of_eq hh.symm) _
  have HBF := Lib.hid HBB
  clear HBB
  rw [← hn, ← hh]
  have p1 : ¬ ((k : Int) = (cap : Int)) := by omega
  have p2 : (k : Int) ≤ (cap : Int) := by omega
  have p3 : ¬ (cap = k) := by omega
  have p4 : ¬ (c2 = k + 1) := by omega
  have p4' : ¬ (c2 = k) := by omega
  have p5 : (cap : Int) < (cap : Int) + 1 := by omega
  have p7 : (k : Int) + 1 ≤ (cap : Int) + 1 := by omega
  have p8 : (k : Int) ≤ (cap : Int) + 1 := by omega
  have p9 : 0 ≤ (k : Int) + 1 := by omega
  have q1 : IntKind.i64.wrap ((cap : Int) + 1) = (cap : Int) + 1 := by rw [IntKind.wrap_i64]; omega
  have q2 : IntKind.i64.wrap ((k : Int) + 1) = (k : Int) + 1 := by rw [IntKind.wrap_i64]; omega
  have q3 : ((cap : Int) + 1).toNat = cap + 1 := by omega
  have q4 : ((k : Int) + 1).toNat = k + 1 := by omega
  have q5 : IntKind.i64.wrap ((cap : Int) + 1 - (k : Int)) = ((cap + 1 - k : Nat) : Int) := by rw [IntKind.wrap_i64]; omega
  have mixed : Try.prog.follows .mixedOrders = true := by kernel_rfl
  have hz := Try.sizeOf37
  obtain ⟨M, hM⟩ : ∃ M : Nat, M = cap + 1 - k := ⟨_, rfl⟩
  have HG1 := Lib.hid (show ∀ W : World, W.heap = ((w.drew.alloc (.cells cur0 37)).setRow h cur1).heap → W.heap[h]? = some (.cells cur1 37 (0, 0)) from fun W hW => by rw [hW]; exact setRow_heap _ h cur0 cur1 37 _ (hg0 _ rfl))
  have HH := Lib.hid hh
  clear hh hcur0 hcur1 hcur2 ht2 htake hC h1C hcl hx hg hn hcur hfo hc2 ht0 hg0 hold hek hzs
  have hcp1' : ∀ ty dc, (Builtin.copy_ #[22, 22] ty #[.slice (some ⟨h, k * 2, none⟩) (cap + 1 - k) dc, .slice (some ⟨vb, 0, none⟩) 1 vc]).run Try.prog (w.alloc (.cells cur0 37)).drew = .ok (goInt 1) ((w.alloc (.cells cur0 37)).drew.setRow h cur1) := fun ty dc => hcp1 (w.alloc (.cells cur0 37)).drew rfl ty dc
  have hcp2' : ∀ ty dc sc, (Builtin.copy_ #[22, 22] ty #[.slice (some ⟨h, (k + 1) * 2, none⟩) (cap - k) dc, .slice (some ⟨g, k * 2, none⟩) (cap - k) sc]).run Try.prog ((w.alloc (.cells cur0 37)).drew.setRow h cur1).drew = .ok (goInt ((cap - k : Nat) : Int)) (((w.alloc (.cells cur0 37)).drew.setRow h cur1).drew.setRow h cur2) := fun ty dc sc => hcp2 ((w.alloc (.cells cur0 37)).drew.setRow h cur1).drew rfl ty dc sc
  clear hcp2
  clear hcp1
  go_enter Try.func30, Try.ntmps30
  go_wp2_with (at_builtin; refine Lib.wpList_append_run _ rfl _ _ 22 3 rfl _ _ rfl rfl _ _ (hap _) ?_)
  go_region
  go_wp2
  go_ret
  refine ⟨c2, cur2, rfl, ?_, hge, hcm, hs2, HT2.out, ?_⟩
  · exact setRow_heap _ h cur1 cur2 37 _ (HG1.out _ rfl)
  · have := below_setRow (below_drew1 HBF.out) (Nat.le_of_eq HH.out.symm) cur2
    rw [← HH.out] at this
    exact this
end Go.Proofs.Ytcklpecjcebekaa.PAll
end
section
/- slices.Insert at entries, one new entry. -/
namespace Go.Proofs.Ytcklpecjcebekaa.PAll
open Go.RowKit Go.Shelf Go.Lib Go.Proofs.YtcklpecjcebekaaW.PrintWords Go.Proofs.YtcklpecjcebekaaW.PrintLast Go.Proofs.YtcklpecjcebekaaW.PrintMore
set_option linter.unusedVariables false
set_option linter.unusedSimpArgs false

theorem one_C {w : World} {vb : Nat} {x : S37} (hx : w.heap[vb]? = some (.cells #[.string x.f0, .int .i64 x.f1] 37 (0, 0))) : Kd.C k37 w (some ⟨vb, 0, none⟩) 1 [x] := by
  refine ⟨rfl, by decide, fun _ => ⟨_, rfl, fun j p hj => ?_⟩⟩
  cases j with
  | succ j => simp at hj
  | zero =>
    obtain rfl : x = p := by simpa using hj
    refine ⟨[.string x.f0, .int .i64 x.f1], rfl, k37_mk w x, fun i u hu => ?_⟩
    rw [add_lit, cell_row hx, ← Array.getElem?_toList, Nat.zero_mul, Nat.zero_add, Nat.zero_add]
    exact hu

set_option maxHeartbeats 4000000 in
set_option maxRecDepth 100000 in
theorem insert_end (w0 w : World) (A : Option Addr) (n c : Nat) (l : List S37) (x : S37) (vb vc : Nat) (hB : Below w0.heap.size w0 w) (hn : n = l.length) (hA : A = none ∧ n = 0 ∧ c = 0 ∨ (∃ g, A = some ⟨g, 0, none⟩) ∧ n ≤ c)
    (hR : Kd.R k37 37 w w0.heap.size (fun _ => True) (.slice A n c) l) (hl : l.length ≤ 1073741824)
    (hx : w.heap[vb]? = some (.cells #[.string x.f0, .int .i64 x.f1] 37 (0, 0))) :
    Calls Try.prog 30 #[.slice A n c, .int .i64 (n : Int), .slice (some ⟨vb, 0, none⟩) 1 vc] w fun e w' =>
      ∃ v1, e = .returned v1 ∧ Kd.R k37 37 w' w0.heap.size (fun _ => True) v1 (l ++ [x]) ∧ Below w0.heap.size w0 w' := by
  have HR := Aside0.mk hR
  have HC := Aside0.mk (one_C hx)
  have HB := Aside0.mk hB
  have HL := Aside0.mk hl
  have HN := Aside0.mk hn
  have hb0 : w0.heap.size ≤ w.heap.size := hB.size
  have hz := Try.sizeOf37
  clear hR hx hB hl
  rcases hA with ⟨rfl, rfl, rfl⟩ | ⟨⟨g, rfl⟩, hc⟩
  · clear hn
    go_enter Try.func30, Try.ntmps30
    go_wp2_with ((with_reducible refine gate_builtin (b := .append) (xs := #[.tmp 23, .tmp 24]) rfl ?_); at_builtin; refine Kd.R_append_rows k37 (w0 := w0) w0.heap.size rfl (.tmp 23) (.tmp 24) 22 37 (.agg #[(.string ⟨#[]⟩), (.int .i64 0)]) 24 rfl Try.underlying22 info37 rfl (by decide) (by omega) (.slice none 0 0) l [x] _ _ _ (fun _ => True) (fun _ => False) rfl rfl HR.out HC.out (fun _ _ h => h) (fun _ h => h.elim) (fun _ _ => trivial) HB.out hb0 (by have := HL.out; omega) ?_; intro v1 w1 ho hb hg hat)
    go_ret
    exact ⟨v1, rfl, ho, hb⟩
  · have p1 : (n : Int) ≤ (c : Int) := by omega
    clear hn
    go_enter Try.func30, Try.ntmps30
    go_wp2_with ((with_reducible refine gate_builtin (b := .append) (xs := #[.tmp 23, .tmp 24]) rfl ?_); at_builtin; refine Kd.R_append_rows k37 (w0 := w0) w0.heap.size rfl (.tmp 23) (.tmp 24) 22 37 (.agg #[(.string ⟨#[]⟩), (.int .i64 0)]) 24 rfl Try.underlying22 info37 rfl (by decide) (by omega) (.slice (some ⟨g, 0, none⟩) n c) l [x] _ _ _ (fun _ => True) (fun _ => False) rfl rfl HR.out HC.out (fun _ _ h => h) (fun _ h => h.elim) (fun _ _ => trivial) HB.out hb0 (by have := HL.out; omega) ?_; intro v1 w1 ho hb hg hat)
    all_goals go_ret
    all_goals exact ⟨v1, rfl, ho, hb⟩

/-- slices.Insert(s, k, x), s of the call's own. -/
theorem insert_calls (w0 w : World) (v : Value) (l : List S37) (k : Nat) (x : S37) (vb vc : Nat) (hB : Below w0.heap.size w0 w)
    (hR : Kd.R k37 37 w w0.heap.size (fun _ => True) v l) (hk : k ≤ l.length) (hl : l.length ≤ 1073741824)
    (hx : w.heap[vb]? = some (.cells #[.string x.f0, .int .i64 x.f1] 37 (0, 0))) (hvb : v.ownBlock ≠ some vb) :
    Calls Try.prog 30 #[v, .int .i64 (k : Int), .slice (some ⟨vb, 0, none⟩) 1 vc] w fun e w' =>
      ∃ v1, e = .returned v1 ∧ Kd.R k37 37 w' w0.heap.size (fun _ => True) v1 (l.take k ++ x :: l.drop k) ∧ Below w0.heap.size w0 w' := by
  have hown := own_of_R hR
  by_cases hke : k = l.length
  · have e : l.take k ++ x :: l.drop k = l ++ [x] := by rw [hke, List.take_length, List.drop_length]
    rw [e, hke]
    rcases hown.2 with ⟨rfl, h0⟩ | ⟨g, cap, cur, rfl, h1, h2, h3, h4, h5, h6⟩
    · have hl0 : l.length = 0 := h0
      rw [hl0]
      exact insert_end w0 w none 0 0 l x vb vc hB hl0.symm (.inl ⟨rfl, rfl, rfl⟩) hR hl hx
    · exact insert_end w0 w _ _ _ l x vb vc hB rfl (.inr ⟨⟨g, rfl⟩, h3⟩) hR hl hx
  · have hkl : k < l.length := by omega
    rcases hown.2 with ⟨rfl, h0⟩ | ⟨g, cap, cur, rfl, h1, h2, h3, h4, h5, h6⟩
    · have hl0 : l.length = 0 := h0
      omega
    · have hne : vb ≠ g := by rintro rfl; exact hvb rfl
      by_cases hroom : l.length + 1 ≤ cap
      · refine (insert_room w g cap cur l k x vb vc h2 hkl hroom h4 h5 h6 hx hne).mono ?_
        rintro e w' ⟨rfl, cur', rfl, hs, ht⟩
        have hlen : (l.take k ++ x :: l.drop k).length = l.length + 1 := by simp; omega
        refine ⟨_, rfl, R_of_own ⟨by rw [cellsOf_length], .inr ⟨g, cap, cur', by rw [hlen], h1, setRow_heap w.drew g cur cur' 37 _ h2, by rw [hlen]; exact hroom, h4, hs, by rw [hlen]; exact ht⟩⟩, below_setRow (below_drew1 hB) h1 _⟩
      · refine (insert_grow w g cap cur l k x vb vc h2 hkl h3 (by omega) hl h5 h6 hx).mono ?_
        rintro e w' ⟨c2, cur', rfl, hh, hc1, hc2, hs, ht, hb⟩
        have hlen : (l.take k ++ x :: l.drop k).length = l.length + 1 := by simp; omega
        exact ⟨_, rfl, R_of_own ⟨by rw [cellsOf_length], .inr ⟨w.heap.size, c2, cur', by rw [hlen], hB.size, hh, by rw [hlen]; exact hc1, hc2, hs, by rw [hlen]; exact ht⟩⟩, hB.trans (hb.mono hB.size)⟩
#print axioms insert_calls
end Go.Proofs.Ytcklpecjcebekaa.PAll
end
section
/- slices.Clone at entries. -/
namespace Go.Proofs.Ytcklpecjcebekaa.PAll
open Go.RowKit Go.Shelf Go.Lib Go.Proofs.YtcklpecjcebekaaW.PrintWords Go.Proofs.YtcklpecjcebekaaW.PrintLast Go.Proofs.YtcklpecjcebekaaW.PrintMore
set_option linter.unusedVariables false
set_option linter.unusedSimpArgs false

set_option maxHeartbeats 8000000 in
set_option maxRecDepth 100000 in
theorem clone_calls (A0 : Option Addr) (c0 : Nat) (l0 : List (S37)) (w : World) (hr0 : Kd.C k37 w A0 l0.length l0) (hc0 : l0.length ≤ c0) (hl : l0.length < 5864062014805) :
    Calls Try.prog 31 #[.slice A0 l0.length c0] w fun e w' => ∃ v0_ : Value, e = .returned (v0_) ∧ Kd.R k37 37 w' w.heap.size (fun _ => True) v0_ l0 ∧ Below w.heap.size w w' := by
  have HR0 := Aside0.mk hr0
  have HC0 := Aside0.mk hc0
  have HB := Aside0.mk (Below.refl w.heap.size w)
  cases A0 with
  | none =>
    have h0 : l0 = [] := by
      by_cases e : 0 < l0.length
      · obtain ⟨ad, h, _⟩ := hr0.2.2 e; cases h
      · exact List.length_eq_zero_iff.1 (by omega)
    subst h0
    clear hr0 hc0 hl
    have hq : ∀ w, (binOp .eql 22 (.slice none 0 c0) (.slice none 0 0)).run Try.prog w = .ok (.bool true) w := fun w => by rw [Lib.run_eql_slice_nil (e := 37)]; rfl; exact Try.underlying22
    go_enter Try.func31, Try.ntmps31
    go_wp2
    go_ret
    exact ⟨_, rfl, Kd.R_nil _ _ _ _ _, Below.refl _ _⟩
  | some ad0 =>
  clear hr0 hc0
  obtain ⟨y169, hy169⟩ : ∃ y_ : List (S37), y_ = (([] : List (S37))) := ⟨_, rfl⟩
  have Ny169 := Aside0.mk hy169
  have c2 : y169.length + l0.length < 5864062014805 := by rw [hy169]; simpa using hl
  have LMc2 := Aside0.mk c2
  clear c2 hl
  obtain ⟨y172, hy172⟩ : ∃ y_ : List (S37), y_ = (y169 ++ l0) := ⟨_, rfl⟩
  have hl0 : y172 = l0 := by rw [hy172, hy169, List.nil_append]
  clear hy169
  have Ny172 := Aside0.mk hy172
  have NL := Aside0.mk hl0
  clear hy172 hl0
  have hq : ∀ w, (binOp .eql 22 (.slice (some ad0) l0.length c0) (.slice none 0 0)).run Try.prog w = .ok (.bool false) w := fun w => by rw [Lib.run_eql_slice_nil (e := 37)]; rfl; exact Try.underlying22
  go_enter Try.func31, Try.ntmps31
  go_wp2_with (first | ((with_reducible refine gate_dst (N := 5) rfl ?_); refine Kd.R_lit k37 _ 37 ?hg (N := 5) ?hd (xs := ([] : List (S37))) (inner := []) (ok := fun _ => True) (okp := fun _ => True) ?hr ?hp (fun _ hk => hk) trivial (Below.refl _ _) (Nat.le_refl _) (by simp) ?_; (case hd => rfl); (case hg => rfl); (case hr => first | (go_simp; done) | (go_simp; rfl)); (case hp => exact (Reps.none _ _)); intro v170 w3 ho4 hb hg_ hnew_; clear hg_ hnew_; (first | rw [← Ny169.out] at ho4 | (simp only [Int.reduceToNat] at ho4; rw [← Ny169.out] at ho4)); have n0_ := Aside0.mk (Kd.R_lower ho4 (below_size (by repeat (first | (with_reducible first | exact HB.out | apply below_alloc | apply pw_below_drewN | apply below_drew1) | exact HB.out)))); have n1_ := Aside0.mk (below_step (by repeat (first | (with_reducible first | exact HB.out | apply below_alloc | apply pw_below_drewN | apply below_drew1) | exact HB.out)) hb); clear HB; have HO171 := n0_; have HB := n1_; clear n0_ n1_; clear hb ho4) | ((with_reducible refine gate_builtin (b := .append) (xs := #[.tmp 5, .tmp 6]) rfl ?_); at_builtin; refine Kd.R_append_rows k37 (w0 := w) w.heap.size rfl (.tmp 5) (.tmp 6) 22 37 (.agg #[(.string ⟨#[]⟩), (.int .i64 0)]) 24 rfl Try.underlying22 info37 rfl (by decide) (by omega) v170 y169 l0 _ _ _ (fun _ => True) (fun _ => False) rfl rfl ?aO ?aR (fun _ _ h => h) (fun _ h => h.elim) ?aF ?aB ?aS ?aL ?_; (case aR => repeat (first | exact (Kd.C_below HR0.out HB.out) | (with_reducible refine Kd.C_alloc ?_ _) | (with_reducible refine Kd.C_drewN ?_ _) | (with_reducible refine Kd.C_drew ?_))); (case aB => exact (by repeat (first | (with_reducible first | exact HB.out | apply below_alloc | apply pw_below_drewN | apply below_drew1) | exact HB.out))); (case aF => exact (fun _ _ => trivial)); (case aO => exact (by (with_reducible repeat (first | apply Kd.R_alloc | apply Kd.R_drewN | apply Kd.R_drew)); exact HO171.out)); (case aS => exact (below_size (by repeat (first | (with_reducible first | exact HB.out | apply below_alloc | apply pw_below_drewN | apply below_drew1) | exact HB.out)))); (case aL => have := LMc2.out; omega); intro v173 w5 ho hb hg hat; rw [← Ny172.out] at ho; have n0_ := Aside0.mk (hb); have n1_ := Aside0.mk (ho); clear HB; clear HO171; have HB := n0_; have HO174 := n1_; clear n0_ n1_; clear ho hb hg hat))
  go_ret
  exact ⟨_, rfl, by rw [← NL.out]; (with_reducible repeat (first | apply Kd.R_alloc | apply Kd.R_drewN | apply Kd.R_drew)); exact HO174.out, by repeat (first | (with_reducible first | exact HB.out | apply below_alloc | apply pw_below_drewN | apply below_drew1) | exact HB.out)⟩
end Go.Proofs.Ytcklpecjcebekaa.PAll
end
section
/- The contracts of the library functions that are used here, laid at this translation (written by the shelf's tools). -/
namespace Go.Proofs
open Go.Shelf
def Try.lays315_ren : Go.Shelf.Ren := ⟨fun | 315 => 47 | n => n, fun | 9 => 9 | 40 => 54 | 4 => 4 | 3 => 3 | 0 => 0 | 21 => 21 | n => n, fun | n => n⟩
theorem Try.lays315 : Go.Proofs.Lays.n315 Try.prog Try.lays315_ren := {
  mixed := by kernel_rfl
  f315 := Try.func47.trans (congrArg some (by kernel_rfl))
  t0 := Try.underlying0
  a0 := Try.isAgg0
  z0 := Try.sizeOf0
  v0 := Try.zeroValue0
  t3 := Try.underlying3
  a3 := Try.isAgg3
  z3 := Try.sizeOf3
  v3 := Try.zeroValue3
  t4 := Try.underlying4
  a4 := Try.isAgg4
  z4 := Try.sizeOf4
  v4 := Try.zeroValue4
  t9 := Try.underlying9
  a9 := Try.isAgg9
  z9 := Try.sizeOf9
  v9 := Try.zeroValue9
  t21 := Try.underlying21
  a21 := Try.isAgg21
  z21 := Try.sizeOf21
  v21 := Try.zeroValue21
  t40 := Try.underlying54
  a40 := Try.isAgg54
  z40 := Try.sizeOf54
  v40 := Try.zeroValue54 }
open Go.RowKit Go.Lib in
theorem Try.strings_indexFunc (g : Nat) (lb : Array Value) (eg : ∀ args w, (callFunc g args).run Try.prog w = .ok (.enter g args) w) (p : Nat → Bool) (truth : Bool) (s : ByteArray) (w : World) (hp : PredAt Try.prog g lb encR p w) :
    Calls Try.prog 47 #[.string s, .func (.func g) #[] lb, .bool truth] w fun e w' => e = .returned (.int .i64 (Lib.idxFunc p truth s)) ∧ Below w.heap.size w w' := Any.strings_indexFunc Try.lays315 g lb eg p truth s w hp
def Try.laysGw15_ren : Go.Shelf.Ren := ⟨fun | 15 => 45 | 20 => 47 | n => n, fun | 9 => 9 | 23 => 54 | 3 => 3 | 4 => 4 | 0 => 0 | 21 => 21 | n => n, fun | n => n⟩
theorem Try.laysGw15 : Go.Proofs.LaysGw.n15 Try.prog Try.laysGw15_ren := {
  mixed := by kernel_rfl
  f15 := Try.func45.trans (congrArg some (by kernel_rfl))
  f20 := Try.func47.trans (congrArg some (by kernel_rfl))
  t0 := Try.underlying0
  a0 := Try.isAgg0
  z0 := Try.sizeOf0
  v0 := Try.zeroValue0
  i0 := by kernel_rfl
  t3 := Try.underlying3
  a3 := Try.isAgg3
  z3 := Try.sizeOf3
  v3 := Try.zeroValue3
  i3 := by kernel_rfl
  t4 := Try.underlying4
  a4 := Try.isAgg4
  z4 := Try.sizeOf4
  v4 := Try.zeroValue4
  i4 := by kernel_rfl
  t9 := Try.underlying9
  a9 := Try.isAgg9
  z9 := Try.sizeOf9
  v9 := Try.zeroValue9
  i9 := by kernel_rfl
  t21 := Try.underlying21
  a21 := Try.isAgg21
  z21 := Try.sizeOf21
  v21 := Try.zeroValue21
  i21 := by kernel_rfl
  t23 := Try.underlying54
  a23 := Try.isAgg54
  z23 := Try.sizeOf54
  v23 := Try.zeroValue54
  i23 := by kernel_rfl }
open Go.RowKit Go.Lib in
theorem Try.strings_IndexFunc (g : Nat) (lb : Array Value) (eg : ∀ args w, (callFunc g args).run Try.prog w = .ok (.enter g args) w) (p : Nat → Bool) (s : ByteArray) (w : World) (hp : PredAt Try.prog g lb encR p w) :
    Calls Try.prog 45 #[.string s, .func (.func g) #[] lb] w fun e w' => e = .returned (.int .i64 (Lib.idxFunc p true s)) ∧ Below w.heap.size w w' := Any.strings_IndexFunc Try.laysGw15 g lb eg p s w hp
def Try.laysGw17_ren : Go.Shelf.Ren := ⟨fun | 17 => 39 | 15 => 45 | 20 => 47 | n => n, fun | 9 => 9 | 23 => 54 | 4 => 4 | 3 => 3 | 0 => 0 | 21 => 21 | n => n, fun | n => n⟩
theorem Try.laysGw17 : Go.Proofs.LaysGw.n17 Try.prog Try.laysGw17_ren := {
  mixed := by kernel_rfl
  f15 := Try.func45.trans (congrArg some (by kernel_rfl))
  f17 := Try.func39.trans (congrArg some (by kernel_rfl))
  f20 := Try.func47.trans (congrArg some (by kernel_rfl))
  t0 := Try.underlying0
  a0 := Try.isAgg0
  z0 := Try.sizeOf0
  v0 := Try.zeroValue0
  i0 := by kernel_rfl
  t3 := Try.underlying3
  a3 := Try.isAgg3
  z3 := Try.sizeOf3
  v3 := Try.zeroValue3
  i3 := by kernel_rfl
  t4 := Try.underlying4
  a4 := Try.isAgg4
  z4 := Try.sizeOf4
  v4 := Try.zeroValue4
  i4 := by kernel_rfl
  t9 := Try.underlying9
  a9 := Try.isAgg9
  z9 := Try.sizeOf9
  v9 := Try.zeroValue9
  i9 := by kernel_rfl
  t21 := Try.underlying21
  a21 := Try.isAgg21
  z21 := Try.sizeOf21
  v21 := Try.zeroValue21
  i21 := by kernel_rfl
  t23 := Try.underlying54
  a23 := Try.isAgg54
  z23 := Try.sizeOf54
  v23 := Try.zeroValue54
  i23 := by kernel_rfl }
open Go.RowKit Go.Lib in
theorem Try.strings_ContainsFunc (g : Nat) (lb : Array Value) (eg : ∀ args w, (callFunc g args).run Try.prog w = .ok (.enter g args) w) (p : Nat → Bool) (s : ByteArray) (w : World) (hp : PredAt Try.prog g lb encR p w) :
    Calls Try.prog 39 #[.string s, .func (.func g) #[] lb] w fun e w' => e = .returned (.bool (decide (0 ≤ Lib.idxFunc p true s))) ∧ Below w.heap.size w w' := Any.strings_ContainsFunc Try.laysGw17 g lb eg p s w hp
end Go.Proofs
end
section
/- What a name, a clean path and its parts are, in plain Lean; and that asking all runes whether one is odd is asking all bytes. -/
namespace Go.Proofs.Ytcklpecjcebekaa.Sp
open Go Go.Lib

def odd (r : Nat) : Bool := decide (r < 33) || decide (126 < r) || decide (r = 47)
def oddB (c : UInt8) : Bool := odd c.toNat
def isName (l : List UInt8) : Bool := !l.isEmpty && decide (l.length ≤ 32) && !(l == [46]) && !(l == [46, 46]) && !l.any oddB

theorem odd_big {r : Nat} (h : 128 ≤ r) : odd r = true := by simp [odd]; omega

theorem drop_any (s : ByteArray) (pos : Nat) (h : pos < s.size) : (s.data.toList.drop pos).any oddB = (oddB (s[pos]'h) || (s.data.toList.drop (pos + 1)).any oddB) := by
  have hl : pos < s.data.toList.length := by simpa using h
  rw [List.drop_eq_getElem_cons hl, List.any_cons]
  rfl

theorem idx_odd (s : ByteArray) : ∀ (f pos : Nat), s.size ≤ pos + f → decide (0 ≤ idxFuncFrom odd true s f pos) = (s.data.toList.drop pos).any oddB := by
  intro f
  induction f with
  | zero =>
    intro pos h
    have hl : s.data.toList.length ≤ pos := by simpa using h
    rw [List.drop_of_length_le hl]
    simp [idxFuncFrom]
  | succ f ih =>
    intro pos h
    unfold idxFuncFrom
    by_cases hp : pos < s.size
    · rw [if_pos hp, drop_any s pos hp]
      by_cases ha : (s[pos]'hp).toNat < 128
      · rw [decode_ascii s pos hp ha]
        by_cases ho : odd (s[pos]'hp).toNat = true
        · rw [if_pos ho]
          have : oddB (s[pos]'hp) = true := ho
          rw [this]
          simp
        · rw [if_neg ho, ih _ (by omega)]
          have : oddB (s[pos]'hp) = false := by simpa [oddB] using ho
          rw [this]; simp
      · have hd := decode_high s pos hp (by omega)
        rw [if_pos (odd_big hd.1)]
        have : oddB (s[pos]'hp) = true := odd_big (by omega)
        rw [this]; simp
    · rw [if_neg hp]
      have hl : s.data.toList.length ≤ pos := by simp; exact Nat.le_of_not_lt hp
      rw [List.drop_of_length_le hl]
      simp

theorem contains_odd (s : ByteArray) : decide (0 ≤ idxFunc odd true s) = s.data.toList.any oddB := by
  unfold idxFunc
  rw [idx_odd s s.size 0 (by omega)]
  rfl

/-- The parts between the slashes, each with its place. -/
def parts (o : Nat) : List UInt8 → List (Nat × List UInt8)
  | [] => [(o, [])]
  | c :: r => if c = 47 then (o, []) :: parts (o + 1) r else
    match parts (o + 1) r with
    | [] => [(o, [c])]
    | (_, h) :: t => (o, c :: h) :: t

theorem parts_ne (o : Nat) (l : List UInt8) : parts o l ≠ [] := by
  cases l with
  | nil => simp [parts]
  | cons c r => unfold parts; split; · simp
                split <;> simp

theorem parts_none : ∀ (l : List UInt8) (o : Nat), indexByte l 47 = -1 → parts o l = [(o, l)]
  | [], o, _ => rfl
  | c :: r, o, h => by
    simp only [indexByte] at h
    by_cases hc : c = 47
    · subst hc; simp at h
    · have hb : (c == 47) = false := by simpa using hc
      rw [hb] at h
      simp only [Bool.false_eq_true, if_false] at h
      have hr : indexByte r 47 = -1 := by
        by_cases e : indexByte r 47 = -1
        · exact e
        · have := indexByte_ge r 47
          rw [if_neg (by simpa using e)] at h; omega
      unfold parts
      rw [if_neg hc, parts_none r (o + 1) hr]

theorem parts_some : ∀ (l : List UInt8) (o n : Nat), indexByte l 47 = (n : Int) → n < l.length ∧ parts o l = (o, l.take n) :: parts (o + n + 1) (l.drop (n + 1))
  | [], o, n, h => by simp [indexByte] at h
  | c :: r, o, n, h => by
    simp only [indexByte] at h
    by_cases hc : c = 47
    · subst hc
      simp at h
      have : n = 0 := by omega
      subst this
      simp [parts]
    · have hb : (c == 47) = false := by simpa using hc
      rw [hb] at h
      simp only [Bool.false_eq_true, if_false] at h
      by_cases e : indexByte r 47 = -1
      · rw [if_pos (by simpa using e)] at h; omega
      · rw [if_neg (by simpa using e)] at h
        obtain ⟨m, rfl⟩ : ∃ m, n = m + 1 := ⟨n - 1, by have := indexByte_ge r 47; omega⟩
        obtain ⟨h1, h2⟩ := parts_some r (o + 1) m (by omega)
        refine ⟨by simp; omega, ?_⟩
        conv => lhs; unfold parts
        rw [if_neg hc, h2]
        simp only [List.take_succ_cons, List.drop_succ_cons]
        congr 2
        omega

/-- Where the parts begin and end. -/
def spans (o : Nat) (l : List UInt8) : List (Nat × Nat) := (parts o l).map fun p => (p.1, p.1 + p.2.length)
theorem spans_none (l : List UInt8) (o : Nat) (h : indexByte l 47 = -1) : spans o l = [(o, o + l.length)] := by simp [spans, parts_none l o h]
theorem spans_some (l : List UInt8) (o n : Nat) (h : indexByte l 47 = (n : Int)) : n < l.length ∧ spans o l = (o, o + n) :: spans (o + n + 1) (l.drop (n + 1)) := by
  obtain ⟨h1, h2⟩ := parts_some l o n h
  refine ⟨h1, ?_⟩
  simp [spans, h2]
  omega
theorem spans_length (l : List UInt8) (o : Nat) : (spans o l).length = (parts o l).length := by simp [spans]

theorem seg_spans (L : List UInt8) : ∀ (l : List UInt8) (o : Nat), L.drop o = l → (spans o l).map (fun x => (L.drop x.1).take (x.2 - x.1)) = (parts o l).map (·.2)
  | [], o, h => by simp [spans, parts]
  | c :: r, o, h => by
    have hr : L.drop (o + 1) = r := by rw [← List.drop_drop, h]; rfl
    have ih := seg_spans L r (o + 1) hr
    unfold spans parts
    by_cases hc : c = 47
    · rw [if_pos hc]
      simp only [List.map_cons]
      unfold spans at ih
      rw [ih]; simp
    · rw [if_neg hc]
      unfold spans at ih
      match hp : parts (o + 1) r with
      | [] => exact absurd hp (parts_ne _ _)
      | (a, g) :: t =>
        rw [hp] at ih
        have ha : a = o + 1 := by
          have := parts_head r (o + 1); rw [hp] at this; simpa using this
        subst ha
        simp only [List.map_cons, List.map_map] at ih ⊢
        simp only [List.cons.injEq] at ih ⊢
        refine ⟨?_, ih.2⟩
        have i1 := ih.1
        rw [hr] at i1
        rw [h]
        have e1 : o + 1 + g.length - (o + 1) = g.length := by omega
        have e2 : o + (c :: g).length - o = g.length + 1 := by simp
        simp only [e1] at i1
        simp only [e2, List.take_succ_cons, i1]
where parts_head : ∀ (l : List UInt8) (o : Nat), ((parts o l).head?.map (·.1)) = some o
  | [], o => rfl
  | c :: r, o => by
    unfold parts
    by_cases hc : c = 47
    · rw [if_pos hc]; rfl
    · rw [if_neg hc]
      match parts (o + 1) r with
      | [] => rfl
      | (a, g) :: t => rfl

/-- The texts between the slashes. -/
def texts (l : List UInt8) : List (List UInt8) := (parts 0 l).map (·.2)
theorem texts_spans (l : List UInt8) : (spans 0 l).map (fun x => (l.drop x.1).take (x.2 - x.1)) = texts l := seg_spans l l 0 rfl

/-- Is it a clean path? -/
def isPath (l : List UInt8) : Bool := decide (l.length ≤ 200) && (l.isEmpty || (texts l).all isName)

/-- path.Clean. -/
def cut2 (l : List UInt8) : List UInt8 := trimSuffix (trimPrefix l [46, 47]) [47]
def cleanL (l : List UInt8) : List UInt8 × Int :=
  if l = [46] ∨ l = [46, 47] then ([], 0) else if cut2 l = [] ∨ isPath (cut2 l) = false then ([], 140) else (cut2 l, 0)

/-- path.Under. -/
def underL (p d : List UInt8) : Bool := hasPrefix p d && (d.isEmpty || (trimPrefix p d).isEmpty || (trimPrefix p d).head? == some 47)

/-- path.Target. -/
def stepWay (way : List (List UInt8)) (x : List UInt8) : Option (List (List UInt8)) :=
  if x = [] ∨ x = [46] then some way else if x = [46, 46] ∧ way ≠ [] then some way.dropLast else if isName x = true then some (way ++ [x]) else none
def walkWay (way : List (List UInt8)) : List (List UInt8) → Option (List (List UInt8))
  | [] => some way
  | x :: r => (stepWay way x).bind fun w => walkWay w r
theorem walkWay_snoc (x : List UInt8) : ∀ (xs way : List (List UInt8)), walkWay way (xs ++ [x]) = (walkWay way xs).bind fun w => stepWay w x
  | [], way => by simp [walkWay]
  | y :: r, way => by
    simp only [walkWay, List.cons_append]
    cases h : stepWay way y with
    | none => rfl
    | some w' => simp only [Option.bind_some]; exact walkWay_snoc x r w'
theorem walkWay_append : ∀ (xs ys way : List (List UInt8)), walkWay way (xs ++ ys) = (walkWay way xs).bind fun w => walkWay w ys
  | [], ys, way => by simp [walkWay]
  | y :: r, ys, way => by
    simp only [walkWay, List.cons_append]
    cases h : stepWay way y with
    | none => rfl
    | some w' => simp only [Option.bind_some]; exact walkWay_append r ys w'

def startWay (at' to_ : List UInt8) : List (List UInt8) := if to_.head? = some 47 then [] else (texts at').dropLast
def targetL (at' to_ : List UInt8) : List UInt8 × Int :=
  if at' = [] ∨ to_ = [] ∨ isPath at' = false then ([], 140) else
  match walkWay (startWay at' to_) (texts to_) with
  | none => ([], 140)
  | some way => if 200 < (join way [47]).length then ([], 140) else (join way [47], 0)

/-- What a way takes. -/
def wt (l : List (List UInt8)) : Nat := (l.map fun x => x.length + 1).sum
theorem wt_append (a b : List (List UInt8)) : wt (a ++ b) = wt a + wt b := by simp [wt]
theorem wt_dropLast (l : List (List UInt8)) : wt l.dropLast ≤ wt l := by
  by_cases h : l = []
  · simp [h]
  · conv => rhs; rw [← List.dropLast_concat_getLast h]
    rw [wt_append]; omega
theorem wt_step {way w : List (List UInt8)} {x : List UInt8} (h : stepWay way x = some w) : wt w ≤ wt way + (x.length + 1) := by
  unfold stepWay at h
  split at h
  · cases h; omega
  split at h
  · cases h; have := wt_dropLast way; omega
  split at h
  · cases h; rw [wt_append]; simp [wt]
  · cases h
theorem wt_walk : ∀ {xs way w : List (List UInt8)}, walkWay way xs = some w → wt w ≤ wt way + wt xs
  | [], way, w, h => by cases h; omega
  | x :: r, way, w, h => by
    simp only [walkWay] at h
    cases hs : stepWay way x with
    | none => rw [hs] at h; cases h
    | some w' =>
      rw [hs] at h
      have h1 := wt_step hs
      have h2 := wt_walk (xs := r) h
      have : wt (x :: r) = (x.length + 1) + wt r := by simp [wt]
      omega
theorem wt_parts : ∀ (l : List UInt8) (o : Nat), wt ((parts o l).map (·.2)) = l.length + 1
  | [], o => by simp [parts, wt]
  | c :: r, o => by
    have ih := wt_parts r (o + 1)
    unfold parts
    by_cases hc : c = 47
    · rw [if_pos hc]
      simp only [wt, List.map_cons, List.sum_cons, List.length_cons, List.length_nil] at ih ⊢
      omega
    · rw [if_neg hc]
      match hp : parts (o + 1) r with
      | [] => exact absurd hp (parts_ne _ _)
      | (a, g) :: t =>
        rw [hp] at ih
        simp only [wt, List.map_cons, List.sum_cons, List.length_cons] at ih ⊢
        omega
theorem wt_texts (l : List UInt8) : wt (texts l) = l.length + 1 := wt_parts l 0
theorem wt_start (a t : List UInt8) : wt (startWay a t) ≤ a.length + 1 := by
  unfold startWay
  split
  · simp [wt]
  · exact Nat.le_trans (wt_dropLast _) (Nat.le_of_eq (wt_texts a))
theorem length_wt (l : List (List UInt8)) : l.length ≤ wt l := by
  induction l with
  | nil => simp
  | cons x r ih => simp only [wt, List.map_cons, List.sum_cons, List.length_cons] at ih ⊢; omega
theorem joinTail_wt (l : List (List UInt8)) : (joinTail [47] l).length = wt l := by
  induction l with
  | nil => simp [joinTail, wt]
  | cons x r ih => simp only [joinTail, wt, List.map_cons, List.flatten_cons, List.length_append, List.sum_cons, List.length_cons, List.length_nil] at ih ⊢; omega
theorem join_wt (l : List (List UInt8)) : (join l [47]).length ≤ wt l := by
  cases l with
  | nil => simp [join_nil]
  | cons x r =>
    rw [join_cons, List.length_append, joinTail_wt]
    simp only [wt, List.map_cons, List.sum_cons]; omega

end Go.Proofs.Ytcklpecjcebekaa.Sp
end
section
/- dirs.Check: a contract by hand, in the print's form. -/
namespace Go.Proofs.Ytcklpecjcebekaa.PAll
open Go.RowKit Go.Shelf Go.Lib Go.Proofs.Ytcklpecjcebekaa.Sp
attribute [local go_sem] Oper.semAt_some

/-- The closure in 'Check'. -/
theorem odd_gives (W : World) (r : Nat) : FnGives Try.prog 38 #[] #[encR r] (.bool (odd r)) W := by
  unfold FnGives
  by_cases h1 : (r : Int) < 33
  · have e : odd r = true := by simp [odd]; omega
    have e' := Lib.hid e; clear e
    rw [e'.out]
    have b1 : decide ((r : Int) < 33) = true := decide_eq_true h1
    go_enter Try.func38, Try.ntmps38
    go_wp2
    go_ret
    exact ⟨rfl, 0, rfl⟩
  · by_cases h2 : (126 : Int) < (r : Int)
    · have e : odd r = true := by simp [odd]; omega
      have e' := Lib.hid e; clear e
      rw [e'.out]
      have b1 : decide ((r : Int) < 33) = false := decide_eq_false h1
      have b2 : decide ((126 : Int) < (r : Int)) = true := decide_eq_true h2
      go_enter Try.func38, Try.ntmps38
      go_wp2
      go_ret
      exact ⟨rfl, 0, rfl⟩
    · have e : odd r = ((r : Int) == 47) := by
        have a1 : ¬ r < 33 := by omega
        have a2 : ¬ 126 < r := by omega
        simp [odd, a1, a2]; rw [Bool.eq_iff_iff]; simp; omega
      have e' := Lib.hid e; clear e
      rw [e'.out]
      have b1 : decide ((r : Int) < 33) = false := decide_eq_false h1
      have b2 : decide ((126 : Int) < (r : Int)) = false := decide_eq_false h2
      go_enter Try.func38, Try.ntmps38
      go_wp2
      go_ret
      exact ⟨rfl, 0, rfl⟩

def dirs_Check.f (a0 : ByteArray) : Option Int := some (if isName a0.data.toList then 0 else 71)
/-- dirs.Check. -/
theorem dirs_Check.calls (a0 : ByteArray) (r : Int) (w : World) (h : dirs_Check.f a0 = some r) :
    Calls Try.prog 23 #[.string a0] w fun e w' => e = .returned (.int .i64 r) ∧ Below w.heap.size w w' := by
  have hC := fun W => Try.strings_ContainsFunc 38 #[] (enters_of Try.func38 (by kernel_rfl) rfl) odd a0 W (fun W' r _ => odd_gives W' r)
  have HB := Lib.hid h; clear h
  go_enter Try.func23, Try.ntmps23
  go_wp2_with (go_at_call 39; refine (hC _).mono ?_; rintro e w' ⟨rfl, hb⟩)
  all_goals go_ret
  all_goals have hsz := Lib.size_eq a0
  all_goals refine ⟨?_, by first | assumption | exact Below.refl _ _⟩
  all_goals have HB := HB.out
  all_goals simp only [dirs_Check.f, Option.some.injEq] at HB
  all_goals rw [← HB]
  all_goals clear HB hC
  all_goals simp only [contains_odd, ← toList_data] at *
  all_goals first | (have h32 : a0.toList.length ≤ 32 := by omega) | (have h33 : ¬ a0.toList.length ≤ 32 := by omega) | skip
  all_goals simp [isName, *]
  · rename_i h
    have hc := contains_odd a0
    rw [← toList_data] at hc
    have h0 : 0 ≤ idxFunc odd true a0 := by
      rcases h with (((h | h) | h) | h) | h
      · simp_all
      · omega
      · simp_all
      · simp_all
      · exact h
    rw [decide_eq_true h0] at hc
    simpa using hc.symm
  · rename_i h
    have hc := contains_odd a0
    rw [← toList_data, decide_eq_false (by omega)] at hc
    simpa using hc.symm
end Go.Proofs.Ytcklpecjcebekaa.PAll
end
section
/- The order of strings, as the print spells it. -/
namespace Go.Proofs.Ytcklpecjcebekaa
open Go

theorem less_iff (a b : List UInt8) : Op.bytesLess a b = decide (a < b) := bytesLess_eq a b
theorem leq_swap (a b : List UInt8) : (Op.bytesLess a b || a == b) = !Op.bytesLess b a := by
  rw [less_iff, less_iff]
  by_cases h : b < a
  · have h1 : ¬ a < b := List.lt_asymm h
    have h2 : ¬ a = b := by rintro rfl; exact List.lt_irrefl _ h
    simp [h, h1, h2]
  · have h1 : a ≤ b := List.not_lt.1 h
    rcases List.le_iff_lt_or_eq.1 h1 with h2 | h2
    · simp [h, h2]
    · subst h2; simp [h]
theorem str_leq (t : TypeId) (a b : ByteArray) : binOp .leq t (.string a) (.string b) = pure (.bool !(Op.bytesLess b.toList a.toList)) := by rw [← leq_swap]; simp [binOp, Op.stringOp]
theorem str_gtr (t : TypeId) (a b : ByteArray) : binOp .gtr t (.string a) (.string b) = pure (.bool (Op.bytesLess b.toList a.toList)) := by rw [← Bool.not_not (Op.bytesLess b.toList a.toList), ← leq_swap]; simp [binOp, Op.stringOp]
theorem str_geq (t : TypeId) (a b : ByteArray) : binOp .geq t (.string a) (.string b) = pure (.bool !(Op.bytesLess a.toList b.toList)) := by simp [binOp, Op.stringOp]
end Go.Proofs.Ytcklpecjcebekaa
end
section
/- dirs.place: where a name stands. -/
namespace Go.Proofs.Ytcklpecjcebekaa.PAll
open Go.RowKit Go.Shelf Go.Lib Go.Proofs.YtcklpecjcebekaaW.PrintWords Go.Proofs.Ytcklpecjcebekaa.Sp
attribute [local go_sem] Oper.semAt_some

/-- The closure in place: is it that name? -/
theorem is_gives (b : Nat) (s : ByteArray) (x : S37) (W : World) (hb : W.cell? ⟨b, 0, none⟩ = some (.string s)) :
    Calls Try.prog 40 (#[.agg #[.string x.f0, .int .i64 x.f1]] ++ #[.pointer (some ⟨b, 0, none⟩)]) W fun e w' => e = .returned (.bool (x.f0.toList == s.toList)) ∧ Below W.heap.size W w' := by
  have hu37 := Try.underlying37
  have hB := (Below.refl W.heap.size W).alloc (Nat.le_refl _) (.cells #[Value.string x.f0, Value.int IntKind.i64 x.f1] 37)
  have hb2 := (hB.cell (World.block_lt_of_cell? W _ hb)).trans hb
  go_enter Try.func40, Try.ntmps40
  go_wp2
  go_ret
  exact ⟨rfl, hB⟩

def dirs_place.f (l0 : List S37) (a1 : ByteArray) : Option (Int × Int) :=
  if isName a1.data.toList = false then some (0, 71) else
  let i := idxL (fun x => x.f0.toList == a1.toList) l0
  if i < 0 then some (0, 5) else some (i, 0)
theorem dirs_place.calls (A0 : Option Addr) (c0 : Nat) (l0 : List (S37)) (a1 : ByteArray) (r1 : Int) (r2 : Int) (w : World) (hr0 : Kd.C k37 w A0 l0.length l0) (_hc0 : l0.length ≤ c0) (h : dirs_place.f l0 a1 = some (r1, r2)) :
    Calls Try.prog 26 #[.slice A0 l0.length c0, .string a1] w fun e w' => e = .returned (.tuple #[.int .i64 r1, .int .i64 r2]) ∧ Below w.heap.size w w' := by
  have hB := (Below.refl w.heap.size w).alloc (Nat.le_refl _) (.cells #[Value.string a1] 9)
  have hbx : (w.alloc (.cells #[Value.string a1] 9)).cell? ⟨w.heap.size, 0, none⟩ = some (.string a1) := by simp
  have cK : ∀ W, Calls Try.prog 23 #[.string a1] W fun e w' => e = .returned (.int .i64 (if isName a1.data.toList then 0 else 71)) ∧ Below W.heap.size W w' := fun W => dirs_Check.calls a1 _ W rfl
  cases hn : isName a1.data.toList with
  | false =>
    have h' : r1 = 0 ∧ r2 = 71 := by simp [dirs_place.f, hn] at h; exact ⟨h.1.symm, h.2.symm⟩
    obtain ⟨rfl, rfl⟩ := h'
    simp only [hn] at cK
    clear h hn
    go_enter Try.func26, Try.ntmps26
    go_wp2_with fail
    refine (cK _).mono ?_
    rintro e w1 ⟨rfl, hb⟩
    replace hB := hB.trans (hb.mono (by simp))
    go_wp2
    go_ret2
    exact ⟨rfl, hB⟩
  | true =>
    simp only [hn, if_true] at cK
    have cI : ∀ W, Below (w.alloc (.cells #[Value.string a1] 9)).heap.size (w.alloc (.cells #[Value.string a1] 9)) W → Calls Try.prog 28 #[.slice A0 l0.length c0, .func (.func 40) #[] #[.pointer (some ⟨w.heap.size, 0, none⟩)]] W fun e w' => e = .returned (.int .i64 (idxL (fun x => x.f0.toList == a1.toList) l0)) ∧ Below W.heap.size W w' := fun W hW => by
      refine idx_calls 40 _ (enters_of Try.func40 (by kernel_rfl) rfl) _ A0 c0 l0 W (Kd.C_below hr0 (hB.trans (hW.mono (by simp)))) ?_
      intro W' x hW'
      refine is_gives _ _ x W' ?_
      have hW2 := hW.trans (hW'.mono hW.size)
      exact (hW2.cell (World.block_lt_of_cell? _ _ hbx)).trans hbx
    obtain ⟨I, hI⟩ : ∃ I, idxL (fun x => x.f0.toList == a1.toList) l0 = I := ⟨_, rfl⟩
    simp only [hI] at cI
    have hres : (I < 0 ∧ r1 = 0 ∧ r2 = 5) ∨ (¬ I < 0 ∧ r1 = I ∧ r2 = 0) := by
      simp only [dirs_place.f, hn, hI] at h
      by_cases hi : I < 0
      · simp [hi] at h; exact .inl ⟨hi, h.1.symm, h.2.symm⟩
      · simp [hi] at h; exact .inr ⟨hi, h.1.symm, h.2.symm⟩
    clear h hn hI
    rcases hres with ⟨hi, rfl, rfl⟩ | ⟨hi, rfl, rfl⟩
    · have ti : decide (I < 0) = true := decide_eq_true hi
      clear hi
      go_enter Try.func26, Try.ntmps26
      go_wp2_with fail
      refine (cK _).mono ?_
      rintro e w1 ⟨rfl, hb⟩
      have cI' := cI _ hb
      replace hB := hB.trans (hb.mono (by simp))
      go_wp2_with fail
      refine cI'.mono ?_
      rintro e w2 ⟨rfl, hb⟩
      replace hB := bl_trans hB hb
      go_wp2
      go_ret2
      exact ⟨rfl, hB⟩
    · have ti : decide (r1 < 0) = false := decide_eq_false hi
      clear hi
      go_enter Try.func26, Try.ntmps26
      go_wp2_with fail
      refine (cK _).mono ?_
      rintro e w1 ⟨rfl, hb⟩
      have cI' := cI _ hb
      replace hB := hB.trans (hb.mono (by simp))
      go_wp2_with fail
      refine cI'.mono ?_
      rintro e w2 ⟨rfl, hb⟩
      replace hB := bl_trans hB hb
      go_wp2
      go_ret2
      exact ⟨rfl, hB⟩
end Go.Proofs.Ytcklpecjcebekaa.PAll
end
section
-- Written by a tool of the kit (print.py) over the laws of this seat at once; Lean checks it.
namespace Go.Proofs.Ytcklpecjcebekaa.PAll
open Go.RowKit Go.Proofs.YtcklpecjcebekaaW.PrintWords Go.Proofs.YtcklpecjcebekaaW.PrintLast Go.Proofs.YtcklpecjcebekaaW.PrintMore
attribute [local go_sem] max2_int min2_int max_two min_two max_three min_three max_four min_four   -- for this text's walks alone
set_option linter.unusedVariables false
set_option linter.unusedSimpArgs false

/-! ### dirs_numbered: function 27 -/
def dirs_numbered.f (a0 : Int) : Option (Bool) := if a0 ≥ 0 then (some (decide (a0 ≤ 65535))) else (some false)
set_option maxHeartbeats 8000000 in
set_option maxRecDepth 100000 in
theorem dirs_numbered.calls (a0 : Int) (r : Bool) (w : World) (h : dirs_numbered.f a0 = some r) :
    Calls Try.prog 27 #[.int .i64 a0] w fun e w' => e = .returned (.bool r) ∧ Drawn0 w w' := by
  have H : (if a0 ≥ 0 then (some (decide (a0 ≤ 65535))) else (some false)) = some r := h
  clear h
  by_cases c2 : a0 ≥ 0
  · rw [if_pos c2] at H
    have c2b0 : decide (0 ≤ a0) = true := decide_eq_true c2
    clear c2
    obtain rfl := Option.some.inj H
    go_enter Try.func27, Try.ntmps27
    go_wp2
    go_ret
    exact ⟨by first | rfl | (simp; done) | (simp [*]; done), by repeat (first | exact Drawn0.refl _ | apply Drawn0.step)⟩
  · rw [if_neg c2] at H
    have c2b0 : decide (0 ≤ a0) = false := decide_eq_false c2
    clear c2
    obtain rfl := Option.some.inj H
    go_enter Try.func27, Try.ntmps27
    go_wp2
    go_ret
    exact ⟨by first | rfl | (simp; done) | (simp [*]; done), by repeat (first | exact Drawn0.refl _ | apply Drawn0.step)⟩

end Go.Proofs.Ytcklpecjcebekaa.PAll
end
section
/- dirs.Add: entries with one more. -/
namespace Go.Proofs.Ytcklpecjcebekaa.PAll
open Go.RowKit Go.Shelf Go.Lib Go.Proofs.YtcklpecjcebekaaW.PrintWords Go.Proofs.YtcklpecjcebekaaW.PrintLast Go.Proofs.YtcklpecjcebekaaW.PrintMore Go.Proofs.Ytcklpecjcebekaa.Sp
attribute [local go_sem] Oper.semAt_some
attribute [local go_sem] Go.Proofs.Ytcklpecjcebekaa.str_leq Go.Proofs.Ytcklpecjcebekaa.str_gtr Go.Proofs.Ytcklpecjcebekaa.str_geq
set_option linter.unusedVariables false
set_option linter.unusedSimpArgs false

/-- The closure in Add: does that entry's name come behind? -/
theorem behind_gives (b : Nat) (s : ByteArray) (x : S37) (W : World) (hb : W.cell? ⟨b, 0, none⟩ = some (.string s)) :
    Calls Try.prog 29 (#[.agg #[.string x.f0, .int .i64 x.f1]] ++ #[.pointer (some ⟨b, 0, none⟩)]) W fun e w' => e = .returned (.bool (Op.bytesLess s.toList x.f0.toList)) ∧ Below W.heap.size W w' := by
  have hu37 := Try.underlying37
  have hB := (Below.refl W.heap.size W).alloc (Nat.le_refl _) (.cells #[Value.string x.f0, Value.int IntKind.i64 x.f1] 37)
  have hb2 := (hB.cell (World.block_lt_of_cell? W _ hb)).trans hb
  go_enter Try.func29, Try.ntmps29
  go_wp2
  go_ret
  exact ⟨rfl, hB⟩

/-- Where a name is put. -/
def slot (l : List S37) (s : ByteArray) : Nat := let i := idxL (fun x => Op.bytesLess s.toList x.f0.toList) l; if i < 0 then l.length else i.toNat
def dirs_Add.f (l0 : List S37) (a1 : ByteArray) (a2 : Int) : Option (List S37 × Int) :=
  if isName a1.data.toList = false then some ([], 71) else
  if ¬ (0 ≤ a2 ∧ a2 ≤ 65535) then some ([], 2) else
  if ¬ idxL (fun x => x.f0.toList == a1.toList) l0 < 0 then some ([], 6) else
  if 256 ≤ l0.length then some ([], 4) else
  some (l0.take (slot l0 a1) ++ ⟨a1, a2⟩ :: l0.drop (slot l0 a1), 0)
theorem idxL_range (p : S37 → Bool) (l : List S37) : -1 ≤ idxL p l ∧ idxL p l < l.length + 1 ∧ (0 ≤ idxL p l → idxL p l < l.length) := by
  unfold idxL
  cases h : l.findIdx? p with
  | none => simp; omega
  | some i =>
    have hi := (List.findIdx?_eq_some_iff_getElem.1 h).1
    simp; omega
theorem slot_le (l : List S37) (s : ByteArray) : slot l s ≤ l.length := by
  unfold slot
  have := idxL_range (fun x => Op.bytesLess s.toList x.f0.toList) l
  dsimp only
  split <;> omega

set_option maxHeartbeats 4000000 in
set_option maxRecDepth 100000 in
theorem dirs_Add.calls (A0 : Option Addr) (c0 : Nat) (l0 : List (S37)) (a1 : ByteArray) (a2 : Int) (r1 : List (S37)) (r2 : Int) (w : World) (hr0 : Kd.C k37 w A0 l0.length l0) (hc0 : l0.length ≤ c0) (h : dirs_Add.f l0 a1 a2 = some (r1, r2)) :
    Calls Try.prog 10 #[.slice A0 l0.length c0, .string a1, .int .i64 a2] w fun e w' => ∃ v0_ : Value, e = .returned (.tuple #[v0_, .int .i64 r2]) ∧ Kd.R k37 37 w' w.heap.size (fun _ => True) v0_ r1 ∧ Below w.heap.size w w' := by
  have hB := (Below.refl w.heap.size w).alloc (Nat.le_refl _) (.cells #[Value.string a1] 9)
  have hbx : (w.alloc (.cells #[Value.string a1] 9)).cell? ⟨w.heap.size, 0, none⟩ = some (.string a1) := by simp
  obtain ⟨W1, hW1⟩ : ∃ W1, W1 = w.alloc (.cells #[Value.string a1] 9) := ⟨_, rfl⟩
  have hB1 : Below w.heap.size w W1 := by rw [hW1]; exact hB
  have hbx1 : W1.cell? ⟨w.heap.size, 0, none⟩ = some (.string a1) := by rw [hW1]; exact hbx
  obtain ⟨pi, pe, hpl⟩ : ∃ pi pe, dirs_place.f l0 a1 = some (pi, pe) := by
    unfold dirs_place.f; dsimp only; split; exact ⟨_, _, rfl⟩; split <;> exact ⟨_, _, rfl⟩
  have cP : ∀ W, Below w.heap.size w W → Calls Try.prog 26 #[.slice A0 l0.length c0, .string a1] W fun e w' => e = .returned (.tuple #[.int .i64 pi, .int .i64 pe]) ∧ Below W.heap.size W w' := fun W hW => dirs_place.calls A0 c0 l0 a1 pi pe W (Kd.C_below hr0 hW) hc0 hpl
  have cN : ∀ W, Calls Try.prog 27 #[.int .i64 a2] W fun e w' => e = .returned (.bool (decide (0 ≤ a2 ∧ a2 ≤ 65535))) ∧ Below W.heap.size W w' := fun W => by
    refine (dirs_numbered.calls a2 _ W ?_).mono fun _ _ ⟨a, b⟩ => ⟨a, b.below⟩
    unfold dirs_numbered.f
    by_cases h0 : a2 ≥ 0
    · rw [if_pos h0]; simp [h0]
    · rw [if_neg h0]; simp [show ¬ 0 ≤ a2 from h0]
  -- what is so of place
  have hcase : (pe = 71 ∧ r1 = [] ∧ r2 = 71) ∨ (pe ≠ 71 ∧ ¬ (0 ≤ a2 ∧ a2 ≤ 65535) ∧ r1 = [] ∧ r2 = 2) ∨ (pe = 0 ∧ (0 ≤ a2 ∧ a2 ≤ 65535) ∧ r1 = [] ∧ r2 = 6) ∨
      (pe = 5 ∧ (0 ≤ a2 ∧ a2 ≤ 65535) ∧ 256 ≤ l0.length ∧ r1 = [] ∧ r2 = 4) ∨ (pe = 5 ∧ (0 ≤ a2 ∧ a2 ≤ 65535) ∧ l0.length < 256 ∧ r1 = l0.take (slot l0 a1) ++ ⟨a1, a2⟩ :: l0.drop (slot l0 a1) ∧ r2 = 0) := by
    unfold dirs_Add.f at h
    unfold dirs_place.f at hpl
    dsimp only at hpl
    by_cases c1 : isName a1.data.toList = false
    · rw [if_pos c1] at h hpl; simp at h hpl; exact .inl ⟨hpl.2.symm, h.1, h.2.symm⟩
    · rw [if_neg c1] at h hpl
      have hpe : (idxL (fun x => x.f0.toList == a1.toList) l0 < 0 ∧ pe = 5) ∨ (¬ idxL (fun x => x.f0.toList == a1.toList) l0 < 0 ∧ pe = 0) := by
        by_cases c : idxL (fun x => x.f0.toList == a1.toList) l0 < 0
        · rw [if_pos c] at hpl; simp at hpl; exact .inl ⟨c, hpl.2.symm⟩
        · rw [if_neg c] at hpl; simp at hpl; exact .inr ⟨c, hpl.2.symm⟩
      by_cases c2 : ¬ (0 ≤ a2 ∧ a2 ≤ 65535)
      · rw [if_pos c2] at h; simp only [Option.some.injEq, Prod.mk.injEq] at h
        exact .inr (.inl ⟨by rcases hpe with ⟨_, e⟩ | ⟨_, e⟩ <;> rw [e] <;> decide, c2, h.1.symm, h.2.symm⟩)
      · rw [if_neg c2] at h
        have c2' := Decidable.not_not.1 c2
        rcases hpe with ⟨c, e⟩ | ⟨c, e⟩
        · rw [if_neg (by simpa using c)] at h
          by_cases c3 : 256 ≤ l0.length
          · rw [if_pos c3] at h; simp only [Option.some.injEq, Prod.mk.injEq] at h
            exact .inr (.inr (.inr (.inl ⟨e, c2', c3, h.1.symm, h.2.symm⟩)))
          · rw [if_neg c3] at h; simp only [Option.some.injEq, Prod.mk.injEq] at h
            exact .inr (.inr (.inr (.inr ⟨e, c2', by omega, h.1.symm, h.2.symm⟩)))
        · rw [if_pos c] at h; simp only [Option.some.injEq, Prod.mk.injEq] at h
          exact .inr (.inr (.inl ⟨e, c2', h.1.symm, h.2.symm⟩))
  have HR0 := Aside0.mk hr0
  have HB1 := Aside0.mk hB1
  clear h hpl hr0 hB hB1
  rcases hcase with ⟨rfl, rfl, rfl⟩ | ⟨hne, hbad, rfl, rfl⟩ | ⟨rfl, hok, rfl, rfl⟩ | ⟨rfl, hok, hfull, rfl, rfl⟩ | ⟨rfl, hok, hsp, hr1, rfl⟩
  · go_enter Try.func10, Try.ntmps10
    go_wp2_with fail
    rw [← hW1]
    refine (cP _ HB1.out).mono ?_
    rintro e w2 ⟨rfl, hb⟩
    have HB2 := HB1.out.trans (hb.mono HB1.out.size)
    go_wp2
    go_ret2
    exact ⟨_, rfl, Kd.R_nil _ _ _ _ _, HB2⟩
  · have b1 : (pe == (71 : Int)) = false := by simpa using hne
    have b2 : decide (0 ≤ a2 ∧ a2 ≤ 65535) = false := decide_eq_false hbad
    rw [b2] at cN
    clear hne hbad b2
    go_enter Try.func10, Try.ntmps10
    go_wp2_with fail
    rw [← hW1]
    refine (cP _ HB1.out).mono ?_
    rintro e w2 ⟨rfl, hb⟩
    have HB2 := HB1.out.trans (hb.mono HB1.out.size)
    go_wp2_with fail
    refine (cN _).mono ?_
    rintro e w3 ⟨rfl, hb3⟩
    have HB3 := HB2.trans (hb3.mono HB2.size)
    go_wp2
    go_ret2
    exact ⟨_, rfl, Kd.R_nil _ _ _ _ _, HB3⟩
  · rw [decide_eq_true hok] at cN
    clear hok
    go_enter Try.func10, Try.ntmps10
    go_wp2_with fail
    rw [← hW1]
    refine (cP _ HB1.out).mono ?_
    rintro e w2 ⟨rfl, hb⟩
    have HB2 := HB1.out.trans (hb.mono HB1.out.size)
    have hbx2 := (hb.cell (World.block_lt_of_cell? W1 _ hbx1)).trans hbx1
    go_wp2_with fail
    refine (cN _).mono ?_
    rintro e w3 ⟨rfl, hb3⟩
    have HB3 := HB2.trans (hb3.mono HB2.size)
    have hbx3 := (hb3.cell (World.block_lt_of_cell? w2 _ hbx2)).trans hbx2
    go_wp2
    go_ret2
    exact ⟨_, rfl, Kd.R_nil _ _ _ _ _, HB3⟩
  · have t256 : decide (256 ≤ (l0.length : Int)) = true := decide_eq_true (by omega)
    clear hfull
    rw [decide_eq_true hok] at cN
    clear hok
    go_enter Try.func10, Try.ntmps10
    go_wp2_with fail
    rw [← hW1]
    refine (cP _ HB1.out).mono ?_
    rintro e w2 ⟨rfl, hb⟩
    have HB2 := HB1.out.trans (hb.mono HB1.out.size)
    have hbx2 := (hb.cell (World.block_lt_of_cell? W1 _ hbx1)).trans hbx1
    go_wp2_with fail
    refine (cN _).mono ?_
    rintro e w3 ⟨rfl, hb3⟩
    have HB3 := HB2.trans (hb3.mono HB2.size)
    have hbx3 := (hb3.cell (World.block_lt_of_cell? w2 _ hbx2)).trans hbx2
    go_wp2
    go_ret2
    exact ⟨_, rfl, Kd.R_nil _ _ _ _ _, HB3⟩
  · have hJ : (idxL (fun x => Op.bytesLess a1.toList x.f0.toList) l0 < 0 ∧ slot l0 a1 = l0.length) ∨ (¬ idxL (fun x => Op.bytesLess a1.toList x.f0.toList) l0 < 0 ∧ idxL (fun x => Op.bytesLess a1.toList x.f0.toList) l0 = (slot l0 a1 : Int)) := by
      unfold slot; dsimp only
      by_cases c : idxL (fun x => Op.bytesLess a1.toList x.f0.toList) l0 < 0
      · exact .inl ⟨c, by rw [if_pos c]⟩
      · exact .inr ⟨c, by rw [if_neg c]; omega⟩
    have hKl := slot_le l0 a1
    obtain ⟨K, hK⟩ : ∃ K, slot l0 a1 = K := ⟨_, rfl⟩
    rw [hK] at hJ hr1 hKl
    have cI : ∀ W, Below W1.heap.size W1 W → Calls Try.prog 28 #[.slice A0 l0.length c0, .func (.func 29) #[] #[.pointer (some ⟨w.heap.size, 0, none⟩)]] W fun e w' => e = .returned (.int .i64 (idxL (fun x => Op.bytesLess a1.toList x.f0.toList) l0)) ∧ Below W.heap.size W w' := fun W hW => by
      refine idx_calls 29 _ (enters_of Try.func29 (by kernel_rfl) rfl) _ A0 c0 l0 W (Kd.C_below HR0.out (HB1.out.trans (hW.mono HB1.out.size))) ?_
      intro W' x hW'
      refine behind_gives _ _ x W' ?_
      have hW2 := hW.trans (hW'.mono hW.size)
      exact (hW2.cell (World.block_lt_of_cell? _ _ hbx1)).trans hbx1
    obtain ⟨J, hJe⟩ : ∃ J, idxL (fun x => Op.bytesLess a1.toList x.f0.toList) l0 = J := ⟨_, rfl⟩
    simp only [hJe] at cI hJ
    clear hJe hK
    have t256 : decide (256 ≤ (l0.length : Int)) = false := decide_eq_false (by omega)
    have HSP := Aside0.mk hsp
    have HR1 := Aside0.mk hr1
    clear hsp hr1
    have ins : ∀ (W5 : World) (v : Value) (vb : Nat), Below w.heap.size w W5 → Kd.R k37 37 W5 w.heap.size (fun _ => True) v l0 → W5.heap[vb]? = some (.cells #[Value.string a1, Value.int .i64 a2] 37 (0, 0)) → v.ownBlock ≠ some vb → Calls Try.prog 30 #[v, .int .i64 (K : Int), .slice (some ⟨vb, 0, none⟩) 1 1] W5 fun e w' =>
        ∃ v1, e = .returned v1 ∧ Kd.R k37 37 w' w.heap.size (fun _ => True) v1 r1 ∧ Below w.heap.size w w' := fun W5 v vb hb hR hx hne => by
      rw [HR1.out]
      exact insert_calls w _ v l0 K ⟨a1, a2⟩ vb 1 hb hR hKl (by have := HSP.out; omega) hx hne
    have mixed : Try.prog.follows .mixedOrders = true := by kernel_rfl
    rw [decide_eq_true hok] at cN
    clear hok
    rcases hJ with ⟨hJ0, hJ1⟩ | ⟨hJ0, hJ1⟩
    · have tJ : decide (J < 0) = true := decide_eq_true hJ0
      rw [hJ1] at ins
      clear hJ0 hJ1 hKl
      go_enter Try.func10, Try.ntmps10
      go_wp2_with fail
      rw [← hW1]
      refine (cP _ HB1.out).mono ?_
      rintro e w2 ⟨rfl, hb⟩
      have HB2 := HB1.out.trans (hb.mono HB1.out.size)
      have hbx2 := (hb.cell (World.block_lt_of_cell? W1 _ hbx1)).trans hbx1
      go_wp2_with fail
      refine (cN _).mono ?_
      rintro e w3 ⟨rfl, hb3⟩
      have HB3 := HB2.trans (hb3.mono HB2.size)
      have HB13 := bl_trans hb hb3
      go_wp2_with fail
      refine (cI _ HB13).mono ?_
      rintro e w4 ⟨rfl, hb4⟩
      have HB4 := HB3.trans (hb4.mono HB3.size)
      have HB14 := bl_trans HB13 hb4
      have hbx4 := (HB14.cell (World.block_lt_of_cell? W1 _ hbx1)).trans hbx1
      have hbx4d : w4.drew.cell? ⟨w.heap.size, 0, none⟩ = some (.string a1) := hbx4
      have HB4d : Below w.heap.size w w4.drew := below_drew1 HB4
      have HB4a : Below w.heap.size w (w4.drew.alloc (.cells #[Value.string a1, Value.int .i64 a2] 37)) := HB4d.alloc HB4d.size _
      have hbx4a : (w4.drew.alloc (.cells #[Value.string a1, Value.int .i64 a2] 37)).cell? ⟨w.heap.size, 0, none⟩ = some (.string a1) := (((Below.refl w4.drew.heap.size w4.drew).alloc (Nat.le_refl _) _).cell (World.block_lt_of_cell? _ _ hbx4d)).trans hbx4d
      go_wp2_with fail
      go_region_with (first
        | (go_at_call 31; refine (clone_calls A0 c0 l0 _ (Kd.C_below HR0.out (by first | exact HB4d | exact HB4a)) hc0 (by have := HSP.out; omega)).mono ?_; rintro e w5 ⟨v, rfl, hv, hb5⟩; have HB5 : Below w.heap.size w w5 := (by first | exact HB4d.trans (hb5.mono HB4d.size) | exact HB4a.trans (hb5.mono HB4a.size)); have HV : Kd.R k37 37 w5 w.heap.size (fun _ => True) v l0 := Kd.R_lower hv (by first | exact HB4d.size | exact HB4a.size); have HOV := own_of_R hv; have hbx5 : w5.cell? ⟨w.heap.size, 0, none⟩ = some (.string a1) := (by first | exact (hb5.cell (World.block_lt_of_cell? _ _ hbx4d)).trans hbx4d | exact (hb5.cell (World.block_lt_of_cell? _ _ hbx4a)).trans hbx4a))
        | (go_at_call 30; refine (ins _ _ _ (by first | exact HB5.alloc HB5.size _ | exact HB5) (by first | exact Kd.R_alloc HV _ | exact HV) (by first | exact heap_alloc_new _ _ | exact (hb5.block _ (by simp)).trans (heap_alloc_new _ _)) (by intro e; have := HOV.lt _ e; first | omega | (simp at this; omega))).mono ?_; rintro e w6 ⟨v1, rfl, ho, hb6⟩))
      all_goals go_wp2
      all_goals go_ret2
      all_goals exact ⟨_, rfl, ho, hb6⟩
    · have tJ : decide (J < 0) = false := decide_eq_false hJ0
      rw [← hJ1] at ins
      clear hJ0 hJ1 hKl
      go_enter Try.func10, Try.ntmps10
      go_wp2_with fail
      rw [← hW1]
      refine (cP _ HB1.out).mono ?_
      rintro e w2 ⟨rfl, hb⟩
      have HB2 := HB1.out.trans (hb.mono HB1.out.size)
      have hbx2 := (hb.cell (World.block_lt_of_cell? W1 _ hbx1)).trans hbx1
      go_wp2_with fail
      refine (cN _).mono ?_
      rintro e w3 ⟨rfl, hb3⟩
      have HB3 := HB2.trans (hb3.mono HB2.size)
      have HB13 := bl_trans hb hb3
      go_wp2_with fail
      refine (cI _ HB13).mono ?_
      rintro e w4 ⟨rfl, hb4⟩
      have HB4 := HB3.trans (hb4.mono HB3.size)
      have HB14 := bl_trans HB13 hb4
      have hbx4 := (HB14.cell (World.block_lt_of_cell? W1 _ hbx1)).trans hbx1
      have hbx4d : w4.drew.cell? ⟨w.heap.size, 0, none⟩ = some (.string a1) := hbx4
      have HB4d : Below w.heap.size w w4.drew := below_drew1 HB4
      have HB4a : Below w.heap.size w (w4.drew.alloc (.cells #[Value.string a1, Value.int .i64 a2] 37)) := HB4d.alloc HB4d.size _
      have hbx4a : (w4.drew.alloc (.cells #[Value.string a1, Value.int .i64 a2] 37)).cell? ⟨w.heap.size, 0, none⟩ = some (.string a1) := (((Below.refl w4.drew.heap.size w4.drew).alloc (Nat.le_refl _) _).cell (World.block_lt_of_cell? _ _ hbx4d)).trans hbx4d
      go_wp2_with fail
      go_region_with (first
        | (go_at_call 31; refine (clone_calls A0 c0 l0 _ (Kd.C_below HR0.out (by first | exact HB4d | exact HB4a)) hc0 (by have := HSP.out; omega)).mono ?_; rintro e w5 ⟨v, rfl, hv, hb5⟩; have HB5 : Below w.heap.size w w5 := (by first | exact HB4d.trans (hb5.mono HB4d.size) | exact HB4a.trans (hb5.mono HB4a.size)); have HV : Kd.R k37 37 w5 w.heap.size (fun _ => True) v l0 := Kd.R_lower hv (by first | exact HB4d.size | exact HB4a.size); have HOV := own_of_R hv; have hbx5 : w5.cell? ⟨w.heap.size, 0, none⟩ = some (.string a1) := (by first | exact (hb5.cell (World.block_lt_of_cell? _ _ hbx4d)).trans hbx4d | exact (hb5.cell (World.block_lt_of_cell? _ _ hbx4a)).trans hbx4a))
        | (go_at_call 30; refine (ins _ _ _ (by first | exact HB5.alloc HB5.size _ | exact HB5) (by first | exact Kd.R_alloc HV _ | exact HV) (by first | exact heap_alloc_new _ _ | exact (hb5.block _ (by simp)).trans (heap_alloc_new _ _)) (by intro e; have := HOV.lt _ e; first | omega | (simp at this; omega))).mono ?_; rintro e w6 ⟨v1, rfl, ho, hb6⟩))
      all_goals go_wp2
      all_goals go_ret2
      all_goals exact ⟨_, rfl, ho, hb6⟩
end Go.Proofs.Ytcklpecjcebekaa.PAll
end
section
/- slices.Delete at entries, one entry. -/
namespace Go.Proofs.Ytcklpecjcebekaa.PAll
open Go.RowKit Go.Shelf Go.Lib Go.Proofs.YtcklpecjcebekaaW.PrintWords Go.Proofs.YtcklpecjcebekaaW.PrintLast Go.Proofs.YtcklpecjcebekaaW.PrintMore
set_option linter.unusedVariables false
set_option linter.unusedSimpArgs false

/-- append in place, told as a row. -/
theorem append_row (w : World) (ty : TypeId) (g i cap : Nat) (cur : Array Value) (A : Addr) (m c : Nat) (news : List Value) (hg : w.heap[g]? = some (.cells cur 37 (0, 0)))
    (hroom : i + m ≤ cap) (hcs : cur.size = cap * 2) (hn : news.length = m * 2) (hnews : ∀ j u, news[j]? = some u → w.cell? (A.add j) = some u) (h1 : ∀ u ∈ news, u.oneCell' = true) :
    (Builtin.append_ #[22, 22] ty #[.slice (some ⟨g, 0, none⟩) i cap, .slice (some A) m c]).run Try.prog w = .ok (.slice (some ⟨g, 0, none⟩) (i + m) cap) (w.setRow g (cur.toList.take (i * 2) ++ news ++ cur.toList.drop (i * 2 + news.length)).toArray) := by
  obtain ⟨i0, hi, hz0, hz1, hz2⟩ := info_parts info37
  have hfc := run_firstCells_some (P := Try.prog) w 2 m A m c news hn hnews
  have hst := run_storeCells_at Try.prog g (i * 2) 37 news 0 cur w hg (by rw [hcs, hn]; omega) h1
  simp only [Nat.add_zero] at hst
  simp [Builtin.append_, run_underlying Try.underlying22, sizeOf, typeInfo, hi, Builtin.lenOf, hroom, Addr.add_lit, hz1, add_lit, hfc, hst]

theorem step_append_runI {P : Program} {ops : Array Oper} {o : Oper} {a : Act} {w : World} {K : Act → World → Prop} {Q : Exit → Act → World → Prop} {E : Prop}
    (hg : o.guard = none) (d x : Operand) (dT sT : TypeId) (hop : o.op = Op.call { callee := Callee.builtin Builtin.append, args := #[d, x], argTypes := #[dT, sT] })
    (v u : Value) (hd : a.eval d = v) (hx : a.eval x = u) {v' : Value} {w' : World} (hr : (Builtin.append_ #[dT, sT] o.type #[v, u]).run P w = .ok v' w') (hK : K (a.put o.dst v') w') :
    if Region.wanted o (yielded ops a.tmps) = true then Oper.wp P o a w K Q else E := by
  have hw : Region.wanted o (yielded ops a.tmps) = true := by simp [Region.wanted, hg]
  rw [if_pos hw]
  unfold Oper.wp
  simp [execOp, hop, resolve, invoke, builtin, hd, hx, hr, Result.andThen]
  exact hK

theorem clear_row (w : World) (ty : TypeId) (g o c : Nat) (cur : Array Value) (hg : w.heap[g]? = some (.cells cur 37 (0, 0))) (ho : o + 2 ≤ cur.size) :
    (Builtin.clear_ #[22] ty #[.slice (some ⟨g, o, none⟩) 1 c]).run Try.prog w = .ok (.tuple #[]) (w.setRow g (cur.toList.take o ++ ([.string ⟨#[]⟩, .int .i64 0] : List Value) ++ cur.toList.drop (o + 2)).toArray) := by
  have hst := run_storeCells_at Try.prog g o 37 [.string ⟨#[]⟩, .int .i64 0] 0 cur w hg (by simpa using ho) (by simp [Value.oneCell'])
  have hz : (Builtin.zeroCells (Value.agg #[.string ⟨#[]⟩, .int .i64 0]).cells 1).toList = ([.string ⟨#[]⟩, .int .i64 0] : List Value) := by simp [Builtin.zeroCells, Value.cells, Array.range, List.range_succ]
  simp only [Nat.add_zero] at hst
  simp [Builtin.clear_, run_underlying Try.underlying22, Try.zeroValue37, hz, hst]

set_option maxHeartbeats 4000000 in
set_option maxRecDepth 100000 in
theorem delete_row (w : World) (g cap : Nat) (cur : Array Value) (l : List S37) (k : Nat)
    (hg : w.heap[g]? = some (.cells cur 37 (0, 0))) (hk : k < l.length) (hcap : l.length ≤ cap) (hm : cap ≤ 9223372036854775807) (hcs : cur.size = cap * 2) (htake : cur.toList.take (l.length * 2) = cellsOf l) :
    Calls Try.prog 32 #[.slice (some ⟨g, 0, none⟩) l.length cap, .int .i64 (k : Int), .int .i64 ((k : Int) + 1)] w fun e w' =>
      e = .returned (.slice (some ⟨g, 0, none⟩) (l.length - 1) cap) ∧ ∃ cur' : Array Value, w' = w.drew.setRow g cur' ∧ cur'.size = cap * 2 ∧ cur'.toList.take ((l.length - 1) * 2) = cellsOf (l.take k ++ l.drop (k + 1)) := by
  obtain ⟨n, hn⟩ : ∃ n, n = l.length := ⟨_, rfl⟩
  rw [← hn] at hk hcap htake
  have hcl := cellsOf_length l
  rw [← hn] at hcl
  obtain ⟨C, hC⟩ : ∃ C, C = cellsOf l := ⟨_, rfl⟩
  rw [← hC] at htake hcl
  have h1C : ∀ v ∈ C, v.oneCell' = true := by rw [hC]; exact cellsOf_one l
  have hgd : w.drew.heap[g]? = some (.cells cur 37 (0, 0)) := hg
  obtain ⟨A, hA⟩ : ∃ A : Addr, A = if cap = k + 1 then (⟨g, 0, none⟩ : Addr) else ⟨g, (k + 1) * 2, none⟩ := ⟨_, rfl⟩
  obtain ⟨news, hnews⟩ : ∃ news, news = C.drop ((k + 1) * 2) := ⟨_, rfl⟩
  have hnl : news.length = (n - (k + 1)) * 2 := by rw [hnews, List.length_drop, hcl]; omega
  obtain ⟨cur1, hcur1⟩ : ∃ c, c = (cur.toList.take (k * 2) ++ news ++ cur.toList.drop (k * 2 + news.length)).toArray := ⟨_, rfl⟩
  have hap : ∀ ty c, (Builtin.append_ #[22, 22] ty #[.slice (some ⟨g, 0, none⟩) k cap, .slice (some A) (n - (k + 1)) c]).run Try.prog w.drew = .ok (.slice (some ⟨g, 0, none⟩) (n - 1) cap) (w.drew.setRow g cur1) := fun ty c => by
    have := append_row w.drew ty g k cap cur A (n - (k + 1)) c news hgd (by omega) hcs hnl ?_ (by rw [hnews]; exact fun v hv => h1C v (List.mem_of_mem_drop hv))
    · rw [this, hcur1, show k + (n - (k + 1)) = n - 1 by omega]
    · intro j u hj
      have hjl := (List.getElem?_eq_some_iff.1 hj).1
      rw [hA, if_neg (by omega), add_lit, cell_row hgd, ← Array.getElem?_toList]
      rw [hnews, List.getElem?_drop, ← htake, List.getElem?_take] at hj
      split at hj
      · exact hj
      · cases hj
  have hld : cap ≠ k + 1 → (loadCellsFrom ⟨g, (k + 1) * 2, none⟩ 0 ((n - (k + 1)) * 2) #[]).run Try.prog w.drew = .ok news.toArray w.drew := fun hne => by
    refine run_firstCells_some (P := Try.prog) w.drew 2 (n - (k + 1)) ⟨g, (k + 1) * 2, none⟩ (n - (k + 1)) 0 news hnl ?_
    intro j u hj
    rw [add_lit, cell_row hgd, ← Array.getElem?_toList]
    rw [hnews, List.getElem?_drop, ← htake, List.getElem?_take] at hj
    split at hj
    · exact hj
    · cases hj
  have hst : (storeCells ⟨g, k * 2, none⟩ news).run Try.prog w.drew = .ok () (w.drew.setRow g cur1) := by
    have := run_storeCells_at Try.prog g (k * 2) 37 news 0 cur w.drew hgd (by rw [hcs, hnl]; omega) (by rw [hnews]; exact fun v hv => h1C v (List.mem_of_mem_drop hv))
    simp only [Nat.add_zero] at this
    rw [this, hcur1]
  have hs1 : cur1.size = cap * 2 := by
    rw [hcur1]
    simp only [List.size_toArray, List.length_append, List.length_take, List.length_drop, Array.length_toList, hnl, hcs]
    omega
  have hg1 : (w.drew.setRow g cur1).heap[g]? = some (.cells cur1 37 (0, 0)) := setRow_heap _ g cur cur1 37 _ hgd
  obtain ⟨cur2, hcur2⟩ : ∃ c, c = (cur1.toList.take ((n - 1) * 2) ++ ([.string ⟨#[]⟩, .int .i64 0] : List Value) ++ cur1.toList.drop ((n - 1) * 2 + 2)).toArray := ⟨_, rfl⟩
  have hcr : ∀ ty c, (Builtin.clear_ #[22] ty #[.slice (some ⟨g, (n - 1) * 2, none⟩) 1 c]).run Try.prog (w.drew.setRow g cur1) = .ok (.tuple #[]) ((w.drew.setRow g cur1).setRow g cur2) := fun ty c => by
    rw [clear_row _ ty g ((n - 1) * 2) c cur1 hg1 (by omega), hcur2]
  have hs2 : cur2.size = cap * 2 := by
    rw [hcur2]
    simp only [List.size_toArray, List.length_append, List.length_take, List.length_drop, Array.length_toList, List.length_cons, List.length_nil, hs1]
    omega
  have ht2 : cur2.toList.take ((n - 1) * 2) = cellsOf (l.take k ++ l.drop (k + 1)) := by
    have e0 : cur.toList.take (k * 2) = C.take (k * 2) := by rw [← htake, List.take_take]; congr 1; omega
    have e1 : cur1.toList.take ((n - 1) * 2) = C.take (k * 2) ++ news := by
      rw [hcur1, e0]
      have : (C.take (k * 2) ++ news).length = (n - 1) * 2 := by rw [List.length_append, List.length_take, hnl, hcl]; omega
      show List.take ((n - 1) * 2) (C.take (k * 2) ++ news ++ _) = _
      rw [← this, List.take_left]
    rw [hcur2, List.append_assoc]
    show List.take ((n - 1) * 2) (cur1.toList.take ((n - 1) * 2) ++ _) = _
    rw [List.take_append_of_le_length (by rw [List.length_take, Array.length_toList]; omega), List.take_take, Nat.min_self, e1, hnews, hC, cellsOf_take, cellsOf_drop, cellsOf_append]
  have hself : cap = k + 1 → w.drew.setRow g cur1 = w.drew := fun hc => by
    have h0 : news = [] := List.eq_nil_of_length_eq_zero (by rw [hnl]; omega)
    have hcc : cur1 = cur := by rw [hcur1, h0]; simp
    rw [hcc]; exact setRow_self _ g cur 37 _ hgd
  have HT2 := Lib.hid ht2
  rw [← hn]
  have p1 : ¬ ((k : Int) = (k : Int) + 1) := by omega
  have p2 : (k : Int) ≤ (cap : Int) := by omega
  have p3 : (k : Int) + 1 ≤ (n : Int) := by omega
  have p4 : (n : Int) ≤ (cap : Int) := by omega
  have p6 : (k : Int) ≤ (n : Int) := by omega
  have p7 : (k : Int) ≤ (k : Int) + 1 := by omega
  have p9 : 0 ≤ (k : Int) + 1 := by omega
  have p10 : (k : Int) + 1 ≤ (cap : Int) := by omega
  have q4 : ((k : Int) + 1).toNat = k + 1 := by omega
  have p11 : ¬ (cap = n - 1) := by omega
  have p12 : ((n - 1 : Nat) : Int) ≤ (n : Int) := by omega
  have q5 : n - (n - 1) = 1 := by omega
  have mixed : Try.prog.follows .mixedOrders = true := by kernel_rfl
  have hz := Try.sizeOf37
  clear hcur1 hcur2 ht2 htake hC h1C hcl hg hgd hn hg1 hnl hnews
  by_cases hce : cap = k + 1
  · have hnk : n = k + 1 := by omega
    rw [if_pos hce] at hA
    subst hA
    subst hce
    subst hnk
    have hs := hself rfl
    have hcr0 : ∀ ty c, (Builtin.clear_ #[22] ty #[.slice (some ⟨g, k * 2, none⟩) 1 c]).run Try.prog w.drew = .ok (.tuple #[]) (w.drew.setRow g cur2) := fun ty c => by
      have := hcr ty c
      rw [hs] at this
      simpa using this
    clear hap hcr hself hs
    go_enter Try.func32, Try.ntmps32
    go_wp2_with fail
    go_region
    go_wp2
    go_ret
    exact ⟨by simp, cur2, rfl, hs2, by simpa using HT2.out⟩
  · rw [if_neg hce] at hA
    subst hA
    have hld' := hld hce
    have e0 : k + (n - (k + 1)) = n - 1 := by omega
    have e1 : n - 1 ≤ cap := by omega
    clear hap hld hself
    go_enter Try.func32, Try.ntmps32
    go_wp2_with fail
    go_region
    go_wp2
    go_ret
    exact ⟨rfl, cur2, setRow_setRow _ _ _ _, hs2, HT2.out⟩
end Go.Proofs.Ytcklpecjcebekaa.PAll
end
section
/- dirs.Remove: entries without one. -/
namespace Go.Proofs.Ytcklpecjcebekaa.PAll
open Go.RowKit Go.Shelf Go.Lib Go.Proofs.YtcklpecjcebekaaW.PrintWords Go.Proofs.YtcklpecjcebekaaW.PrintLast Go.Proofs.YtcklpecjcebekaaW.PrintMore Go.Proofs.Ytcklpecjcebekaa.Sp
attribute [local go_sem] Oper.semAt_some
set_option linter.unusedVariables false
set_option linter.unusedSimpArgs false

theorem delete_calls (w0 w : World) (v : Value) (l : List S37) (k : Nat) (hB : Below w0.heap.size w0 w) (hR : Kd.R k37 37 w w0.heap.size (fun _ => True) v l) (hk : k < l.length) :
    Calls Try.prog 32 #[v, .int .i64 (k : Int), .int .i64 ((k : Int) + 1)] w fun e w' => ∃ v1, e = .returned v1 ∧ Kd.R k37 37 w' w0.heap.size (fun _ => True) v1 (l.take k ++ l.drop (k + 1)) ∧ Below w0.heap.size w0 w' := by
  have hown := own_of_R hR
  rcases hown.2 with ⟨rfl, h0⟩ | ⟨g, cap, cur, rfl, h1, h2, h3, h4, h5, h6⟩
  · have : l.length = 0 := h0
    omega
  · refine (delete_row w g cap cur l k h2 hk h3 h4 h5 h6).mono ?_
    rintro e w' ⟨rfl, cur', rfl, hs, ht⟩
    have hlen : (l.take k ++ l.drop (k + 1)).length = l.length - 1 := by simp; omega
    exact ⟨_, rfl, R_of_own ⟨by rw [cellsOf_length], .inr ⟨g, cap, cur', by rw [hlen], h1, setRow_heap w.drew g cur cur' 37 _ h2, by rw [hlen]; omega, h4, hs, by rw [hlen]; exact ht⟩⟩, below_setRow (below_drew1 hB) h1 _⟩

def dirs_Remove.f (l0 : List S37) (a1 : ByteArray) : Option (List S37 × Int) :=
  if isName a1.data.toList = false then some ([], 71) else
  let i := idxL (fun x => x.f0.toList == a1.toList) l0
  if i < 0 then some ([], 5) else if 5864062014804 < l0.length then none else some (l0.take i.toNat ++ l0.drop (i.toNat + 1), 0)

theorem idx_lt {p : S37 → Bool} {l : List S37} (h : ¬ idxL p l < 0) : (idxL p l).toNat < l.length ∧ ((idxL p l).toNat : Int) = idxL p l := by
  unfold idxL at h ⊢
  cases h' : l.findIdx? p with
  | none => rw [h'] at h; simp at h
  | some i =>
    have hi := (List.findIdx?_eq_some_iff_getElem.1 h').1
    simp; omega

set_option maxHeartbeats 4000000 in
set_option maxRecDepth 100000 in
theorem dirs_Remove.calls (A0 : Option Addr) (c0 : Nat) (l0 : List (S37)) (a1 : ByteArray) (r1 : List (S37)) (r2 : Int) (w : World) (hr0 : Kd.C k37 w A0 l0.length l0) (hc0 : l0.length ≤ c0) (h : dirs_Remove.f l0 a1 = some (r1, r2)) :
    Calls Try.prog 11 #[.slice A0 l0.length c0, .string a1] w fun e w' => ∃ v0_ : Value, e = .returned (.tuple #[v0_, .int .i64 r2]) ∧ Kd.R k37 37 w' w.heap.size (fun _ => True) v0_ r1 ∧ Below w.heap.size w w' := by
  have HB := Below.refl w.heap.size w
  obtain ⟨pi, pe, hpl⟩ : ∃ pi pe, dirs_place.f l0 a1 = some (pi, pe) := by
    unfold dirs_place.f; dsimp only; split; exact ⟨_, _, rfl⟩; split <;> exact ⟨_, _, rfl⟩
  have cP : ∀ W, Below w.heap.size w W → Calls Try.prog 26 #[.slice A0 l0.length c0, .string a1] W fun e w' => e = .returned (.tuple #[.int .i64 pi, .int .i64 pe]) ∧ Below W.heap.size W w' := fun W hW => dirs_place.calls A0 c0 l0 a1 pi pe W (Kd.C_below hr0 hW) hc0 hpl
  have hcase : (pe ≠ 0 ∧ r1 = [] ∧ r2 = pe) ∨ (pe = 0 ∧ ∃ k : Nat, pi = (k : Int) ∧ k < l0.length ∧ l0.length ≤ 5864062014804 ∧ r1 = l0.take k ++ l0.drop (k + 1) ∧ r2 = 0) := by
    unfold dirs_Remove.f at h
    unfold dirs_place.f at hpl
    dsimp only at hpl h
    by_cases c1 : isName a1.data.toList = false
    · rw [if_pos c1] at h hpl; simp at h hpl; exact .inl ⟨by rw [← hpl.2]; decide, h.1, by rw [← h.2, ← hpl.2]⟩
    · rw [if_neg c1] at h hpl
      by_cases c : idxL (fun x => x.f0.toList == a1.toList) l0 < 0
      · rw [if_pos c] at h hpl; simp at h hpl; exact .inl ⟨by rw [← hpl.2]; decide, h.1, by rw [← h.2, ← hpl.2]⟩
      · rw [if_neg c] at h hpl
        by_cases c3 : 5864062014804 < l0.length
        · rw [if_pos c3] at h; cases h
        · rw [if_neg c3] at h
          simp only [Option.some.injEq, Prod.mk.injEq] at h hpl
          obtain ⟨i1, i2⟩ := idx_lt c
          exact .inr ⟨hpl.2.symm, _, by rw [i2]; exact hpl.1.symm, i1, by omega, h.1.symm, h.2.symm⟩
  have HR0 := Aside0.mk hr0
  clear h hpl hr0
  rcases hcase with ⟨hne, rfl, rfl⟩ | ⟨rfl, k, rfl, hk, hl, hr1, rfl⟩
  · have b1 : (r2 == (0 : Int)) = false := by simpa using hne
    have b2 : (r2 != (0 : Int)) = true := by simpa using hne
    clear hne
    go_enter Try.func11, Try.ntmps11
    go_wp2_with fail
    refine (cP _ HB).mono ?_
    rintro e w2 ⟨rfl, hb⟩
    go_wp2
    go_ret2
    exact ⟨_, rfl, Kd.R_nil _ _ _ _ _, hb⟩
  · have del : ∀ (W5 : World) (v : Value), Below w.heap.size w W5 → Kd.R k37 37 W5 w.heap.size (fun _ => True) v l0 → Calls Try.prog 32 #[v, .int .i64 (k : Int), .int .i64 ((k : Int) + 1)] W5 fun e w' =>
        ∃ v1, e = .returned v1 ∧ Kd.R k37 37 w' w.heap.size (fun _ => True) v1 r1 ∧ Below w.heap.size w w' := fun W5 v hb hR => by
      rw [hr1]; exact delete_calls w W5 v l0 k hb hR hk
    have HL := Aside0.mk hl
    have q1 : IntKind.i64.wrap ((k : Int) + 1) = (k : Int) + 1 := by rw [IntKind.wrap_i64]; omega
    have mixed : Try.prog.follows .mixedOrders = true := by kernel_rfl
    clear hr1 hl hk
    go_enter Try.func11, Try.ntmps11
    go_wp2_with fail
    refine (cP _ HB).mono ?_
    rintro e w2 ⟨rfl, hb⟩
    go_wp2_with fail
    refine (clone_calls A0 c0 l0 _ (Kd.C_below HR0.out hb) hc0 (by have := HL.out; omega)).mono ?_
    rintro e w5 ⟨v, rfl, hv, hb5⟩
    have HB5 := hb.trans (hb5.mono hb.size)
    have HV := Kd.R_lower hv hb.size
    clear hv
    go_wp2_with fail
    refine (del _ _ HB5 HV).mono ?_
    rintro e w6 ⟨v1, rfl, ho, hb6⟩
    go_wp2
    go_ret2
    exact ⟨_, rfl, ho, hb6⟩
end Go.Proofs.Ytcklpecjcebekaa.PAll
end
section
-- Written by a tool of the kit (print.py) over the laws of this seat at once; Lean checks it.
namespace Go.Proofs.Ytcklpecjcebekaa.PAll
open Go.RowKit Go.Proofs.YtcklpecjcebekaaW.PrintWords Go.Proofs.YtcklpecjcebekaaW.PrintLast Go.Proofs.YtcklpecjcebekaaW.PrintMore
attribute [local go_sem] Go.Proofs.Ytcklpecjcebekaa.str_leq Go.Proofs.Ytcklpecjcebekaa.str_gtr Go.Proofs.Ytcklpecjcebekaa.str_geq
attribute [local go_sem] max2_int min2_int max_two min_two max_three min_three max_four min_four   -- for this text's walks alone
set_option linter.unusedVariables false
set_option linter.unusedSimpArgs false

/-! ### dirs_right: function 25 -/
def dirs_right.l0 : Nat → List (S37) → ByteArray → List (S37) → Int → Int → Option (Bool)
  | 0, _, _, _, _, _ => none
  | k + 1, x0, x3, x6, x7, x8 => if x8 < x7 then (if 0 ≤ x8 then (if x8 < (x6.length : Int) then ((dirs_Check.f ((rd_T37 x6 x8).f0)).bind fun t103 => (if t103 = 0 then ((dirs_numbered.f ((rd_T37 x6 x8).f1)).bind fun t104 => (if t104 = true then (if ((Op.bytesLess x3.toList (((rd_T37 x6 x8).f0).toList)) = true) then (dirs_right.l0 k x0 ((rd_T37 x6 x8).f0) x6 x7 (wrap64 (x8 + 1))) else (some false)) else (some false))) else (some false))) else (none)) else (none)) else (some (decide ((x0.length : Int) ≤ 256)))
def dirs_right.f (k : Nat) (l0 : List (S37)) : Option (Bool) := dirs_right.l0 k l0 (⟨#[]⟩ : ByteArray) l0 (l0.length : Int) 0
theorem dirs_right.mono_l : ∀ k, (∀ y0 y1 y2 y3 y4, LeO (dirs_right.l0 k y0 y1 y2 y3 y4) (dirs_right.l0 (k + 1) y0 y1 y2 y3 y4))
  | 0 => fun _ _ _ _ _ r h => by simp [dirs_right.l0] at h
  | k + 1 => by
    have ih0 := dirs_right.mono_l k
    · intro y0 y1 y2 y3 y4
      unfold dirs_right.l0
      repeat' first
      | (with_reducible exact ih0 _ _ _ _ _)
      | (with_reducible exact LeO.refl _)
      | (with_reducible exact LeO.none _)
      | (with_reducible refine LeO.ite ?_ ?_)
      | (with_reducible refine LeO.bind ?_ (fun _ => ?_))
      | exact ih0 _ _ _ _ _
      | exact LeO.none _
      | refine LeO.ite ?_ ?_
      | refine LeO.bind ?_ (fun _ => ?_)
theorem dirs_right.mono : ∀ a0 k, LeO (dirs_right.f k a0) (dirs_right.f (k + 1) a0) := by
  intro a0 k
  have ih0 := dirs_right.mono_l k
  unfold dirs_right.f
  repeat' first
      | (with_reducible exact ih0 _ _ _ _ _)
      | (with_reducible exact LeO.refl _)
      | (with_reducible exact LeO.none _)
      | (with_reducible refine LeO.ite ?_ ?_)
      | (with_reducible refine LeO.bind ?_ (fun _ => ?_))
      | exact ih0 _ _ _ _ _
      | exact LeO.none _
      | refine LeO.ite ?_ ?_
      | refine LeO.bind ?_ (fun _ => ?_)
set_option maxHeartbeats 8000000 in
set_option maxRecDepth 100000 in
theorem dirs_right.calls (k : Nat) (A0 : Option Addr) (c0 : Nat) (l0 : List (S37)) (r : Bool) (w : World) (hr0 : Kd.C k37 w A0 l0.length l0) (hc0 : l0.length ≤ c0) (h : dirs_right.f k l0 = some r) :
    Calls Try.prog 25 #[.slice A0 l0.length c0] w fun e w' => e = .returned (.bool r) ∧ Below w.heap.size w w' := by
  have hu37 := Try.underlying37
  have HR0 := Aside0.mk hr0
  have HC0 := Aside0.mk hc0
  clear hr0 hc0
  have HB := Aside0.mk (Below.refl w.heap.size w)
  have H : (dirs_right.l0 k l0 (⟨#[]⟩ : ByteArray) l0 (l0.length : Int) 0) = some r := h
  clear h
  have H' := Aside0.mk H
  clear H
  go_enter Try.func25, Try.ntmps25
  go_wp2
  go_loopg [3, 8] k (fun kq v3 v8 w' => ∃ (x3_1 : ByteArray) (x8_1 : Int), v3 = .string x3_1 ∧ v8 = .int .i64 x8_1 ∧ Aside0 (dirs_right.l0 kq l0 x3_1 l0 (l0.length : Int) x8_1 = some r) ∧ Aside0 (kq ≤ k) ∧ Aside0 (Below w.heap.size w w'))
  case atStart => exact ⟨((⟨#[]⟩ : ByteArray)), (0), (by first | rfl | (simp; done) | (simp [*]; done)), (by first | rfl | (simp; done) | (simp [*]; done)), H', ⟨Nat.le_refl _⟩, ⟨by repeat (first | (with_reducible first | exact HB.out | apply below_alloc | apply pw_below_drewN | apply below_drew1) | exact HB.out)⟩⟩
  case round =>
    clear H'
    obtain ⟨x3_1, x8_1, rfl, rfl, HA, HK1, HB⟩ := hrel
    cases gk with
    | zero => exact absurd HA.out (by simp [dirs_right.l0])
    | succ k1 =>
      have H := HA.out
      clear HA
      simp only [dirs_right.l0] at H
      by_cases c2 : x8_1 < (l0.length : Int)
      · rw [if_pos c2] at H
        have c2b0 : decide (x8_1 < (l0.length : Int)) = true := decide_eq_true c2
        clear c2
        by_cases c3 : 0 ≤ x8_1
        · rw [if_pos c3] at H
          have c3b0 : decide (0 ≤ x8_1) = true := decide_eq_true c3
          clear c3
          by_cases c4 : x8_1 < (l0.length : Int)
          · rw [if_pos c4] at H
            have c4b0 : decide (x8_1 < (l0.length : Int)) = true := decide_eq_true c4
            clear c4
            replace H := Option.bind_eq_some_iff.mp H
            obtain ⟨t103, A50, H⟩ := H
            replace H : (if t103 = 0 then ((dirs_numbered.f ((rd_T37 l0 x8_1).f1)).bind fun t104 => (if t104 = true then (if ((Op.bytesLess x3_1.toList (((rd_T37 l0 x8_1).f0).toList)) = true) then (dirs_right.l0 k1 l0 ((rd_T37 l0 x8_1).f0) l0 (l0.length : Int) (wrap64 (x8_1 + 1))) else (some false)) else (some false))) else (some false)) = some r := H
            have A5 := Aside0.mk A50
            clear A50
            by_cases c6 : t103 = 0
            · rw [if_pos c6] at H
              have c6b0 : (t103 == 0) = true := beq_iff_eq.mpr c6
              have c6b1 : (t103 != 0) = false := bne_eq_false_iff_eq.mpr c6
              clear c6
              replace H := Option.bind_eq_some_iff.mp H
              obtain ⟨t104, A70, H⟩ := H
              replace H : (if t104 = true then (if ((Op.bytesLess x3_1.toList (((rd_T37 l0 x8_1).f0).toList)) = true) then (dirs_right.l0 k1 l0 ((rd_T37 l0 x8_1).f0) l0 (l0.length : Int) (wrap64 (x8_1 + 1))) else (some false)) else (some false)) = some r := H
              have A7 := Aside0.mk A70
              clear A70
              by_cases c8 : t104 = true
              · subst c8
                have H1 : (if ((Op.bytesLess x3_1.toList (((rd_T37 l0 x8_1).f0).toList)) = true) then (dirs_right.l0 k1 l0 ((rd_T37 l0 x8_1).f0) l0 (l0.length : Int) (wrap64 (x8_1 + 1))) else (some false)) = some r := by rw [if_pos rfl] at H; exact H
                clear H
                have H := H1
                clear H1
                by_cases c9 : ((Op.bytesLess x3_1.toList (((rd_T37 l0 x8_1).f0).toList)) = true)
                · rw [if_pos c9] at H
                  have c9b0 : (Op.bytesLess x3_1.toList (((rd_T37 l0 x8_1).f0).toList)) = true := c9
                  clear c9
                  have H' := Aside0.mk H
                  clear H
                  have p101 : 0 ≤ (x8_1 : Int) := of_decide_eq_true (by first | (with_reducible assumption) | assumption)
                  have q101 : x8_1 < (l0.length : Int) := of_decide_eq_true (by first | (with_reducible assumption) | assumption)
                  obtain ⟨ad101, e101, hx101_0, hx101_1⟩ := at_T37 HR0.out x8_1 p101 q101
                  cases e101
                  replace hx101_0 := (HB.out.cell (World.block_lt_of_cell? w _ hx101_0)).trans hx101_0
                  replace hx101_1 := (HB.out.cell (World.block_lt_of_cell? w _ hx101_1)).trans hx101_1
                  replace p101 := eq_true p101
                  replace q101 := eq_true q101
                  go_wp2_with (first | ((with_reducible refine gate_dst (N := 5) rfl ?_); refine box_event ?hg (N := 5) ?hd (cs := #[.string (⟨#[]⟩ : ByteArray), .int .i64 0]) (t := 37) ?hr ?_; (case hd => rfl); (case hg => rfl); (case hr => first | (go_simp; done) | (go_simp; rfl)); intro gb102 hg w10 hbox hb; have n0_ := Aside0.mk (below_step (by repeat (first | (with_reducible first | exact HB.out | apply below_alloc | apply pw_below_drewN | apply below_drew1) | exact HB.out)) hb); have n1_ := Aside0.mk (hbox); have n2_ := Aside0.mk ((by rw [hg]; exact (below_size (by repeat (first | (with_reducible first | exact HB.out | apply below_alloc | apply pw_below_drewN | apply below_drew1) | exact HB.out))) : w.heap.size ≤ gb102)); have n3_ := Aside0.mk ((by rw [hg]; exact (below_size (by repeat (first | (with_reducible first | exact HB.out | apply below_alloc | apply pw_below_drewN | apply below_drew1) | exact HB.out))) : w.heap.size ≤ gb102)); clear HB; have HB := n0_; have BK102 := n1_; have GW102 := n2_; have GE102 := n3_; clear n0_ n1_ n2_ n3_; clear hb hbox hg; have hcz11_0 : w10.cell? ⟨gb102, 0, none⟩ = some (.string (⟨#[]⟩ : ByteArray)) := (blk_cell BK102.out 0).trans rfl; have hcz11_1 : w10.cell? ⟨gb102, 1, none⟩ = some (.int .i64 0) := (blk_cell BK102.out 1).trans rfl; have hfz11_0 := blk_frozen BK102.out 0; have hfz11_1 := blk_frozen BK102.out 1) | ((with_reducible refine gate_callee (f := 23) rfl ?_); refine goesL_ (some 14) rfl rfl Try.func23 (by kernel_rfl) rfl #[.string ((rd_T37 l0 x8_1).f0)] rfl (by (try simp only [List.map_toArray, List.map_cons, List.map_nil]); first | done | rfl | (simp only [List.length_drop, List.length_take]; rfl)) ?_; (with_reducible refine (dirs_Check.calls ((rd_T37 l0 x8_1).f0) t103 _ A5.out).mono ?_); rintro e w12 ⟨rfl, hb⟩; refine ⟨_, rfl, ?_⟩; have n0_ := Aside0.mk (blk_below (g := gb102) (o := .cells #[.string ((rd_T37 l0 x8_1).f0), .int .i64 ((rd_T37 l0 x8_1).f1)] 37 (0, 0)) (by (with_reducible repeat (first | refine blk_drewN ?_ _ | refine blk_drew ?_ | refine blk_alloc ?_ _)); refine blk_put (cs := #[.string ((rd_T37 l0 x8_1).f0), .int .i64 0]) ?_ 1 _ rfl; (with_reducible repeat (first | refine blk_drewN ?_ _ | refine blk_drew ?_ | refine blk_alloc ?_ _)); refine blk_put (cs := #[.string (⟨#[]⟩ : ByteArray), .int .i64 0]) ?_ 0 _ rfl; (with_reducible repeat (first | refine blk_drewN ?_ _ | refine blk_drew ?_ | refine blk_alloc ?_ _)); exact BK102.out) hb); have n1_ := Aside0.mk (below_step (by repeat (first | (with_reducible first | exact HB.out | apply below_alloc | apply pw_below_drewN | apply below_drew1 | refine below_set ?_ GE102.out) | exact HB.out)) hb); clear BK102; clear HB; have BK102 := n0_; have HB := n1_; clear n0_ n1_; (try clear hb); (try clear hb2); (try clear hk); (try clear hi); have hcz13_0 : w12.cell? ⟨gb102, 0, none⟩ = some (.string ((rd_T37 l0 x8_1).f0)) := (blk_cell BK102.out 0).trans rfl; have hcz13_1 : w12.cell? ⟨gb102, 1, none⟩ = some (.int .i64 ((rd_T37 l0 x8_1).f1)) := (blk_cell BK102.out 1).trans rfl; have hfz13_0 := blk_frozen BK102.out 0; have hfz13_1 := blk_frozen BK102.out 1) | (go_at_call 27; (with_reducible refine (dirs_numbered.calls ((rd_T37 l0 x8_1).f1) true _ A7.out).mono ?_); rintro e w' ⟨rfl, ⟨nd, rfl⟩⟩))
                  go_roundg k1
                  case measure => have := HK1.out; omega
                  case rel => exact ⟨((rd_T37 l0 x8_1).f0), (wrap64 (x8_1 + 1)), (by first | rfl | (simp; done) | (simp [*]; done)), (by first | rfl | (simp; done) | (simp [*]; done)), H', ⟨by have := HK1.out; omega⟩, ⟨by repeat (first | (with_reducible first | exact HB.out | apply below_alloc | apply pw_below_drewN | apply below_drew1 | refine below_set ?_ GE102.out) | exact HB.out)⟩⟩
                · rw [if_neg c9] at H
                  have c9b0 : (Op.bytesLess x3_1.toList (((rd_T37 l0 x8_1).f0).toList)) = false := by simpa using c9
                  clear c9
                  obtain rfl := Option.some.inj H
                  have p101 : 0 ≤ (x8_1 : Int) := of_decide_eq_true (by first | (with_reducible assumption) | assumption)
                  have q101 : x8_1 < (l0.length : Int) := of_decide_eq_true (by first | (with_reducible assumption) | assumption)
                  obtain ⟨ad101, e101, hx101_0, hx101_1⟩ := at_T37 HR0.out x8_1 p101 q101
                  cases e101
                  replace hx101_0 := (HB.out.cell (World.block_lt_of_cell? w _ hx101_0)).trans hx101_0
                  replace hx101_1 := (HB.out.cell (World.block_lt_of_cell? w _ hx101_1)).trans hx101_1
                  replace p101 := eq_true p101
                  replace q101 := eq_true q101
                  go_wp2_with (first | ((with_reducible refine gate_dst (N := 5) rfl ?_); refine box_event ?hg (N := 5) ?hd (cs := #[.string (⟨#[]⟩ : ByteArray), .int .i64 0]) (t := 37) ?hr ?_; (case hd => rfl); (case hg => rfl); (case hr => first | (go_simp; done) | (go_simp; rfl)); intro gb102 hg w14 hbox hb; have n0_ := Aside0.mk (below_step (by repeat (first | (with_reducible first | exact HB.out | apply below_alloc | apply pw_below_drewN | apply below_drew1) | exact HB.out)) hb); have n1_ := Aside0.mk (hbox); have n2_ := Aside0.mk ((by rw [hg]; exact (below_size (by repeat (first | (with_reducible first | exact HB.out | apply below_alloc | apply pw_below_drewN | apply below_drew1) | exact HB.out))) : w.heap.size ≤ gb102)); have n3_ := Aside0.mk ((by rw [hg]; exact (below_size (by repeat (first | (with_reducible first | exact HB.out | apply below_alloc | apply pw_below_drewN | apply below_drew1) | exact HB.out))) : w.heap.size ≤ gb102)); clear HB; have HB := n0_; have BK102 := n1_; have GW102 := n2_; have GE102 := n3_; clear n0_ n1_ n2_ n3_; clear hb hbox hg; have hcz15_0 : w14.cell? ⟨gb102, 0, none⟩ = some (.string (⟨#[]⟩ : ByteArray)) := (blk_cell BK102.out 0).trans rfl; have hcz15_1 : w14.cell? ⟨gb102, 1, none⟩ = some (.int .i64 0) := (blk_cell BK102.out 1).trans rfl; have hfz15_0 := blk_frozen BK102.out 0; have hfz15_1 := blk_frozen BK102.out 1) | ((with_reducible refine gate_callee (f := 23) rfl ?_); refine goesL_ (some 14) rfl rfl Try.func23 (by kernel_rfl) rfl #[.string ((rd_T37 l0 x8_1).f0)] rfl (by (try simp only [List.map_toArray, List.map_cons, List.map_nil]); first | done | rfl | (simp only [List.length_drop, List.length_take]; rfl)) ?_; (with_reducible refine (dirs_Check.calls ((rd_T37 l0 x8_1).f0) t103 _ A5.out).mono ?_); rintro e w16 ⟨rfl, hb⟩; refine ⟨_, rfl, ?_⟩; have n0_ := Aside0.mk (blk_below (g := gb102) (o := .cells #[.string ((rd_T37 l0 x8_1).f0), .int .i64 ((rd_T37 l0 x8_1).f1)] 37 (0, 0)) (by (with_reducible repeat (first | refine blk_drewN ?_ _ | refine blk_drew ?_ | refine blk_alloc ?_ _)); refine blk_put (cs := #[.string ((rd_T37 l0 x8_1).f0), .int .i64 0]) ?_ 1 _ rfl; (with_reducible repeat (first | refine blk_drewN ?_ _ | refine blk_drew ?_ | refine blk_alloc ?_ _)); refine blk_put (cs := #[.string (⟨#[]⟩ : ByteArray), .int .i64 0]) ?_ 0 _ rfl; (with_reducible repeat (first | refine blk_drewN ?_ _ | refine blk_drew ?_ | refine blk_alloc ?_ _)); exact BK102.out) hb); have n1_ := Aside0.mk (below_step (by repeat (first | (with_reducible first | exact HB.out | apply below_alloc | apply pw_below_drewN | apply below_drew1 | refine below_set ?_ GE102.out) | exact HB.out)) hb); clear BK102; clear HB; have BK102 := n0_; have HB := n1_; clear n0_ n1_; (try clear hb); (try clear hb2); (try clear hk); (try clear hi); have hcz17_0 : w16.cell? ⟨gb102, 0, none⟩ = some (.string ((rd_T37 l0 x8_1).f0)) := (blk_cell BK102.out 0).trans rfl; have hcz17_1 : w16.cell? ⟨gb102, 1, none⟩ = some (.int .i64 ((rd_T37 l0 x8_1).f1)) := (blk_cell BK102.out 1).trans rfl; have hfz17_0 := blk_frozen BK102.out 0; have hfz17_1 := blk_frozen BK102.out 1) | (go_at_call 27; (with_reducible refine (dirs_numbered.calls ((rd_T37 l0 x8_1).f1) true _ A7.out).mono ?_); rintro e w' ⟨rfl, ⟨nd, rfl⟩⟩))
                  go_ret
                  exact ⟨by first | rfl | (simp [errW_none, errW_some] <;> rfl) | (simp [*, errW_none, errW_some] <;> rfl), by repeat (first | (with_reducible first | exact HB.out | apply below_alloc | apply pw_below_drewN | apply below_drew1 | refine below_set ?_ GE102.out) | exact HB.out)⟩
              · replace c8 := Bool.eq_false_iff.mpr c8
                subst c8
                have H1 : (some false) = some r := by rw [if_neg (show ¬ (false = true) by decide)] at H; exact H
                clear H
                have H := H1
                clear H1
                obtain rfl := Option.some.inj H
                have p101 : 0 ≤ (x8_1 : Int) := of_decide_eq_true (by first | (with_reducible assumption) | assumption)
                have q101 : x8_1 < (l0.length : Int) := of_decide_eq_true (by first | (with_reducible assumption) | assumption)
                obtain ⟨ad101, e101, hx101_0, hx101_1⟩ := at_T37 HR0.out x8_1 p101 q101
                cases e101
                replace hx101_0 := (HB.out.cell (World.block_lt_of_cell? w _ hx101_0)).trans hx101_0
                replace hx101_1 := (HB.out.cell (World.block_lt_of_cell? w _ hx101_1)).trans hx101_1
                replace p101 := eq_true p101
                replace q101 := eq_true q101
                go_wp2_with (first | ((with_reducible refine gate_dst (N := 5) rfl ?_); refine box_event ?hg (N := 5) ?hd (cs := #[.string (⟨#[]⟩ : ByteArray), .int .i64 0]) (t := 37) ?hr ?_; (case hd => rfl); (case hg => rfl); (case hr => first | (go_simp; done) | (go_simp; rfl)); intro gb102 hg w18 hbox hb; have n0_ := Aside0.mk (below_step (by repeat (first | (with_reducible first | exact HB.out | apply below_alloc | apply pw_below_drewN | apply below_drew1) | exact HB.out)) hb); have n1_ := Aside0.mk (hbox); have n2_ := Aside0.mk ((by rw [hg]; exact (below_size (by repeat (first | (with_reducible first | exact HB.out | apply below_alloc | apply pw_below_drewN | apply below_drew1) | exact HB.out))) : w.heap.size ≤ gb102)); have n3_ := Aside0.mk ((by rw [hg]; exact (below_size (by repeat (first | (with_reducible first | exact HB.out | apply below_alloc | apply pw_below_drewN | apply below_drew1) | exact HB.out))) : w.heap.size ≤ gb102)); clear HB; have HB := n0_; have BK102 := n1_; have GW102 := n2_; have GE102 := n3_; clear n0_ n1_ n2_ n3_; clear hb hbox hg; have hcz19_0 : w18.cell? ⟨gb102, 0, none⟩ = some (.string (⟨#[]⟩ : ByteArray)) := (blk_cell BK102.out 0).trans rfl; have hcz19_1 : w18.cell? ⟨gb102, 1, none⟩ = some (.int .i64 0) := (blk_cell BK102.out 1).trans rfl; have hfz19_0 := blk_frozen BK102.out 0; have hfz19_1 := blk_frozen BK102.out 1) | ((with_reducible refine gate_callee (f := 23) rfl ?_); refine goesL_ (some 14) rfl rfl Try.func23 (by kernel_rfl) rfl #[.string ((rd_T37 l0 x8_1).f0)] rfl (by (try simp only [List.map_toArray, List.map_cons, List.map_nil]); first | done | rfl | (simp only [List.length_drop, List.length_take]; rfl)) ?_; (with_reducible refine (dirs_Check.calls ((rd_T37 l0 x8_1).f0) t103 _ A5.out).mono ?_); rintro e w20 ⟨rfl, hb⟩; refine ⟨_, rfl, ?_⟩; have n0_ := Aside0.mk (blk_below (g := gb102) (o := .cells #[.string ((rd_T37 l0 x8_1).f0), .int .i64 ((rd_T37 l0 x8_1).f1)] 37 (0, 0)) (by (with_reducible repeat (first | refine blk_drewN ?_ _ | refine blk_drew ?_ | refine blk_alloc ?_ _)); refine blk_put (cs := #[.string ((rd_T37 l0 x8_1).f0), .int .i64 0]) ?_ 1 _ rfl; (with_reducible repeat (first | refine blk_drewN ?_ _ | refine blk_drew ?_ | refine blk_alloc ?_ _)); refine blk_put (cs := #[.string (⟨#[]⟩ : ByteArray), .int .i64 0]) ?_ 0 _ rfl; (with_reducible repeat (first | refine blk_drewN ?_ _ | refine blk_drew ?_ | refine blk_alloc ?_ _)); exact BK102.out) hb); have n1_ := Aside0.mk (below_step (by repeat (first | (with_reducible first | exact HB.out | apply below_alloc | apply pw_below_drewN | apply below_drew1 | refine below_set ?_ GE102.out) | exact HB.out)) hb); clear BK102; clear HB; have BK102 := n0_; have HB := n1_; clear n0_ n1_; (try clear hb); (try clear hb2); (try clear hk); (try clear hi); have hcz21_0 : w20.cell? ⟨gb102, 0, none⟩ = some (.string ((rd_T37 l0 x8_1).f0)) := (blk_cell BK102.out 0).trans rfl; have hcz21_1 : w20.cell? ⟨gb102, 1, none⟩ = some (.int .i64 ((rd_T37 l0 x8_1).f1)) := (blk_cell BK102.out 1).trans rfl; have hfz21_0 := blk_frozen BK102.out 0; have hfz21_1 := blk_frozen BK102.out 1) | (go_at_call 27; (with_reducible refine (dirs_numbered.calls ((rd_T37 l0 x8_1).f1) false _ A7.out).mono ?_); rintro e w' ⟨rfl, ⟨nd, rfl⟩⟩))
                go_ret
                exact ⟨by first | rfl | (simp [errW_none, errW_some] <;> rfl) | (simp [*, errW_none, errW_some] <;> rfl), by repeat (first | (with_reducible first | exact HB.out | apply below_alloc | apply pw_below_drewN | apply below_drew1 | refine below_set ?_ GE102.out) | exact HB.out)⟩
            · rw [if_neg c6] at H
              have c6b0 : (t103 == 0) = false := beq_eq_false_iff_ne.mpr c6
              have c6b1 : (t103 != 0) = true := bne_iff_ne.mpr c6
              obtain rfl := Option.some.inj H
              have p101 : 0 ≤ (x8_1 : Int) := of_decide_eq_true (by first | (with_reducible assumption) | assumption)
              have q101 : x8_1 < (l0.length : Int) := of_decide_eq_true (by first | (with_reducible assumption) | assumption)
              obtain ⟨ad101, e101, hx101_0, hx101_1⟩ := at_T37 HR0.out x8_1 p101 q101
              cases e101
              replace hx101_0 := (HB.out.cell (World.block_lt_of_cell? w _ hx101_0)).trans hx101_0
              replace hx101_1 := (HB.out.cell (World.block_lt_of_cell? w _ hx101_1)).trans hx101_1
              replace p101 := eq_true p101
              replace q101 := eq_true q101
              go_wp2_with (first | ((with_reducible refine gate_dst (N := 5) rfl ?_); refine box_event ?hg (N := 5) ?hd (cs := #[.string (⟨#[]⟩ : ByteArray), .int .i64 0]) (t := 37) ?hr ?_; (case hd => rfl); (case hg => rfl); (case hr => first | (go_simp; done) | (go_simp; rfl)); intro gb102 hg w22 hbox hb; have n0_ := Aside0.mk (below_step (by repeat (first | (with_reducible first | exact HB.out | apply below_alloc | apply pw_below_drewN | apply below_drew1) | exact HB.out)) hb); have n1_ := Aside0.mk (hbox); have n2_ := Aside0.mk ((by rw [hg]; exact (below_size (by repeat (first | (with_reducible first | exact HB.out | apply below_alloc | apply pw_below_drewN | apply below_drew1) | exact HB.out))) : w.heap.size ≤ gb102)); have n3_ := Aside0.mk ((by rw [hg]; exact (below_size (by repeat (first | (with_reducible first | exact HB.out | apply below_alloc | apply pw_below_drewN | apply below_drew1) | exact HB.out))) : w.heap.size ≤ gb102)); clear HB; have HB := n0_; have BK102 := n1_; have GW102 := n2_; have GE102 := n3_; clear n0_ n1_ n2_ n3_; clear hb hbox hg; have hcz23_0 : w22.cell? ⟨gb102, 0, none⟩ = some (.string (⟨#[]⟩ : ByteArray)) := (blk_cell BK102.out 0).trans rfl; have hcz23_1 : w22.cell? ⟨gb102, 1, none⟩ = some (.int .i64 0) := (blk_cell BK102.out 1).trans rfl; have hfz23_0 := blk_frozen BK102.out 0; have hfz23_1 := blk_frozen BK102.out 1) | ((with_reducible refine gate_callee (f := 23) rfl ?_); refine goesL_ (some 14) rfl rfl Try.func23 (by kernel_rfl) rfl #[.string ((rd_T37 l0 x8_1).f0)] rfl (by (try simp only [List.map_toArray, List.map_cons, List.map_nil]); first | done | rfl | (simp only [List.length_drop, List.length_take]; rfl)) ?_; (with_reducible refine (dirs_Check.calls ((rd_T37 l0 x8_1).f0) t103 _ A5.out).mono ?_); rintro e w24 ⟨rfl, hb⟩; refine ⟨_, rfl, ?_⟩; have n0_ := Aside0.mk (blk_below (g := gb102) (o := .cells #[.string ((rd_T37 l0 x8_1).f0), .int .i64 ((rd_T37 l0 x8_1).f1)] 37 (0, 0)) (by (with_reducible repeat (first | refine blk_drewN ?_ _ | refine blk_drew ?_ | refine blk_alloc ?_ _)); refine blk_put (cs := #[.string ((rd_T37 l0 x8_1).f0), .int .i64 0]) ?_ 1 _ rfl; (with_reducible repeat (first | refine blk_drewN ?_ _ | refine blk_drew ?_ | refine blk_alloc ?_ _)); refine blk_put (cs := #[.string (⟨#[]⟩ : ByteArray), .int .i64 0]) ?_ 0 _ rfl; (with_reducible repeat (first | refine blk_drewN ?_ _ | refine blk_drew ?_ | refine blk_alloc ?_ _)); exact BK102.out) hb); have n1_ := Aside0.mk (below_step (by repeat (first | (with_reducible first | exact HB.out | apply below_alloc | apply pw_below_drewN | apply below_drew1 | refine below_set ?_ GE102.out) | exact HB.out)) hb); clear BK102; clear HB; have BK102 := n0_; have HB := n1_; clear n0_ n1_; (try clear hb); (try clear hb2); (try clear hk); (try clear hi)))
              go_ret
              exact ⟨by first | rfl | (simp [errW_none, errW_some] <;> rfl) | (simp [*, errW_none, errW_some] <;> rfl), by repeat (first | (with_reducible first | exact HB.out | apply below_alloc | apply pw_below_drewN | apply below_drew1 | refine below_set ?_ GE102.out) | exact HB.out)⟩
          · rw [if_neg c4] at H
            exact absurd H (by simp)
        · rw [if_neg c3] at H
          exact absurd H (by simp)
      · rw [if_neg c2] at H
        have c2b0 : decide (x8_1 < (l0.length : Int)) = false := decide_eq_false c2
        clear c2
        obtain rfl := Option.some.inj H
        go_wp2
        go_ret
        exact ⟨by first | rfl | (simp [errW_none, errW_some] <;> rfl) | (simp [*, errW_none, errW_some] <;> rfl), by repeat (first | (with_reducible first | exact HB.out | apply below_alloc | apply pw_below_drewN | apply below_drew1) | exact HB.out)⟩

end Go.Proofs.Ytcklpecjcebekaa.PAll
end
section
/- dirs.right in plain Lean. -/
namespace Go.Proofs.Ytcklpecjcebekaa.PAll
open Go.RowKit Go.Lib Go.Proofs.YtcklpecjcebekaaW.PrintWords Go.Proofs.YtcklpecjcebekaaW.PrintLast Go.Proofs.YtcklpecjcebekaaW.PrintMore Go.Proofs.Ytcklpecjcebekaa.Sp

theorem Ev.round {α : Type} {g : Nat → Option α} {r : α} (f : Nat → Option α) (h : ∀ k, g (k + 1) = f k) (k : Ev f r) : Ev g r := Ev.step h k
theorem Ev.some {α : Type} {g : Nat → Option α} {r : α} (h : ∀ k, g k = Option.some r) : Ev g r := ⟨0, fun k _ => h k⟩
theorem wrap_up {i n : Nat} (h : i < n) (hn : n ≤ 9223372036854775807) : wrap64 ((i : Int) + 1) = ((i + 1 : Nat) : Int) := by unfold wrap64; omega

def okInode (n : Int) : Bool := decide (0 ≤ n) && decide (n ≤ 65535)
def rightFrom (last : List UInt8) : List S37 → Bool
  | [] => true
  | x :: r => isName x.f0.data.toList && okInode x.f1 && Op.bytesLess last x.f0.toList && rightFrom x.f0.toList r
def rightL (l : List S37) : Bool := rightFrom [] l && decide (l.length ≤ 256)

theorem rd_get (l : List S37) (i : Nat) (h : i < l.length) : rd_T37 l (i : Int) = l[i] := by simp [rd_T37, List.getD_eq_getElem?_getD, h]

theorem right_l0 (l : List S37) (hl : l.length ≤ 9223372036854775807) : ∀ (d i : Nat) (last : ByteArray), l.length - i = d → i ≤ l.length →
    Ev (fun k => dirs_right.l0 k l last l (l.length : Int) (i : Int)) (rightFrom last.toList (l.drop i) && decide (l.length ≤ 256)) := by
  intro d
  induction d with
  | zero =>
    intro i last hd hi
    have hi' : i = l.length := by omega
    rw [hi', List.drop_length]
    refine Ev.round (fun _ => some (decide ((l.length : Int) ≤ 256))) (fun k => ?_) ?_
    · simp only [dirs_right.l0]; rw [if_neg (by omega)]
    · refine Ev.some fun k => ?_
      simp only [rightFrom, Bool.true_and]
      congr 1
      simp [show ((l.length : Int) ≤ 256) ↔ l.length ≤ 256 by omega]
  | succ d ih =>
    intro i last hd hi
    have hlt : i < l.length := by omega
    rw [List.drop_eq_getElem_cons hlt]
    have hrd := rd_get l i hlt
    obtain ⟨x, hx⟩ : ∃ x, x = l[i] := ⟨_, rfl⟩
    rw [← hx] at hrd ⊢
    simp only [rightFrom]
    have hw := wrap_up hlt hl
    have key : ∀ b : Bool, (isName x.f0.data.toList && okInode x.f1 && Op.bytesLess last.toList x.f0.toList) = b → Ev (fun k => dirs_right.l0 k l last l (l.length : Int) (i : Int)) (b && rightFrom x.f0.toList (l.drop (i + 1)) && decide (l.length ≤ 256)) := by
      intro b hb
      cases b with
      | true =>
        simp only [Bool.and_eq_true] at hb
        refine Ev.round (fun k => dirs_right.l0 k l x.f0 l (l.length : Int) (wrap64 ((i : Int) + 1))) (fun k => ?_) ?_
        · simp only [dirs_right.l0]
          have hn : okInode x.f1 = true := hb.1.2
          simp only [okInode, Bool.and_eq_true, decide_eq_true_eq] at hn
          rw [if_pos (by omega), if_pos (by omega), if_pos (by omega), hrd]
          simp only [dirs_Check.f, hb.1.1, if_true, Option.bind_some, dirs_numbered.f]
          rw [if_pos (by omega)]
          simp only [Option.bind_some, decide_eq_true hn.2, if_true]
          rw [if_pos hb.2]
        · rw [hw, Bool.true_and]
          exact ih (i + 1) x.f0 (by omega) (by omega)
      | false =>
        rw [Bool.false_and, Bool.false_and]
        refine Ev.round (fun _ => some false) (fun k => ?_) (Ev.now _)
        simp only [dirs_right.l0]
        rw [if_pos (by omega), if_pos (by omega), if_pos (by omega), hrd]
        cases h1 : isName x.f0.data.toList with
        | false => simp [dirs_Check.f, h1]
        | true =>
          simp only [dirs_Check.f, h1, if_true, Option.bind_some, dirs_numbered.f]
          by_cases h2 : x.f1 ≥ 0
          · rw [if_pos h2]
            simp only [Option.bind_some]
            by_cases h3 : x.f1 ≤ 65535
            · rw [if_pos (by simpa using h3)]
              have h4 : Op.bytesLess last.toList x.f0.toList = false := by
                have ho : okInode x.f1 = true := by simp [okInode, h3]; omega
                rw [h1, ho] at hb; simpa using hb
              rw [if_neg (by simp [h4])]
            · rw [if_neg (by simpa using h3)]
          · rw [if_neg h2]; simp
    have := key _ rfl
    exact this
theorem right_f (l : List S37) (hl : l.length ≤ 9223372036854775807) : Ev (fun k => dirs_right.f k l) (rightL l) := by
  have := right_l0 l hl l.length 0 ⟨#[]⟩ (by omega) (by omega)
  rw [List.drop_zero, show (⟨#[]⟩ : ByteArray).toList = [] by rw [toList_data]] at this
  exact this
#print axioms right_f
end Go.Proofs.Ytcklpecjcebekaa.PAll
end
section
/- append to a row of bytes of the call's own, one step of a drawing region: bytes, a string. -/
namespace Go.Proofs.Ytcklpecjcebekaa.PAll
open Go.RowKit Go.Shelf Go.Lib Go.Proofs.YtcklpecjcebekaaW.PrintWords Go.Proofs.YtcklpecjcebekaaW.PrintLast Go.Proofs.YtcklpecjcebekaaW.PrintMore
set_option linter.unusedVariables false
set_option linter.unusedSimpArgs false

abbrev BRow (W : World) (base : Nat) (v : Value) (acc : List Int) : Prop := W.ownsRow base 5 1 v acc.length (nums .u8 acc)
theorem not_box {W : World} {base : Nat} {v : Value} {acc : List Int} (hO : BRow W base v acc) {k t : Nat} {cells : Array Value} (hb : W.heap[k]? = some (.cells cells t (0, 0))) (ht : t ≠ 5) : some k ≠ v.ownBlock := by
  intro e
  rcases hO.2 with ⟨rfl, _⟩ | ⟨g, cap, cur, rfl, _, hg, _⟩
  · simp [Value.ownBlock] at e
  · have : k = g := by simpa [Value.ownBlock] using e
    subst this
    rw [hb] at hg
    simp at hg
    exact ht hg.2
section
variable {ops : Array Oper} {o : Oper} {a : Act} {W : World} {K : Act → World → Prop} {Q : Exit → Act → World → Prop} {E : Prop}
theorem step_bytes (base : Nat) (hg : o.guard = none) (d x : Operand) (hop : o.op = Op.call { callee := Callee.builtin Builtin.append, args := #[d, x], argTypes := #[24, 24] })
    (v : Value) (acc zs : List Int) (A : Addr) (m c : Nat) (hd : a.eval d = v) (hx : a.eval x = .slice (some A) m c) (hm : zs.length = m) (hO : BRow W base v acc) (hz : ∀ j u, (nums .u8 zs)[j]? = some u → W.cell? (A.add j) = some u)
    (hbase : base ≤ W.heap.size) (hl : acc.length + zs.length ≤ 140737488355328)
    (hK : ∀ v1 w1, BRow w1 base v1 (acc ++ zs) → W.grownBy w1 v.ownBlock → K (a.put o.dst v1) w1) : if Region.wanted o (yielded ops a.tmps) = true then Oper.wp Try.prog o a W K Q else E := by
  obtain ⟨i0, hi, hz0, hz1, hz2⟩ := info_parts info5
  obtain ⟨v1, w1, hr, ho, hgr, _⟩ := run_append_own (P := Try.prog) W base 24 o.type 5 i0 (.int .u8 0) 1 1 Try.underlying24 hi hz0 hz1 hz2 rfl (by decide) v acc.length (nums .u8 acc) hO A m c (nums .u8 zs) (by simp [nums, hm]) hz (by intro u hu; simp [nums] at hu; obtain ⟨z, _, rfl⟩ := hu; rfl) (by simp only [maxLen]; omega) (by omega) hbase
  refine step_append_runI hg d x 24 24 hop v _ hd hx hr (hK v1 w1 ?_ hgr)
  rw [← hm] at ho
  simpa [BRow, nums_append] using ho
theorem step_str (base : Nat) (hg : o.guard = none) (d x : Operand) (hop : o.op = Op.call { callee := Callee.builtin Builtin.append, args := #[d, x], argTypes := #[24, 9] })
    (v : Value) (acc : List Int) (s : ByteArray) (hd : a.eval d = v) (hx : a.eval x = .string s) (hO : BRow W base v acc) (hbase : base ≤ W.heap.size) (hl : acc.length + s.size ≤ 140737488355328)
    (hK : ∀ v1 w1, BRow w1 base v1 (acc ++ YtcklpecjcebekaaW.PrintWords.bytesOf s) → W.grownBy w1 v.ownBlock → K (a.put o.dst v1) w1) : if Region.wanted o (yielded ops a.tmps) = true then Oper.wp Try.prog o a W K Q else E := by
  obtain ⟨i0, hi, hz0, hz1, hz2⟩ := info_parts info5
  obtain ⟨v1, w1, hr, ho, hgr, _⟩ := Lib.run_append_own_string (P := Try.prog) W base 24 9 o.type 5 i0 Try.underlying24 Try.underlying9 hi hz0 hz1 hz2 v acc.length (nums .u8 acc) hO s (by simp only [maxLen]; omega) hl hbase
  refine step_append_runI hg d x 24 9 hop v _ hd hx hr (hK v1 w1 ?_ hgr)
  have hc : nums .u8 (acc ++ YtcklpecjcebekaaW.PrintWords.bytesOf s) = nums .u8 acc ++ Lib.strCells s := by
    rw [nums_append]; congr 1; simp [nums, YtcklpecjcebekaaW.PrintWords.bytesOf, Lib.strCells]
  have hl2 : (acc ++ YtcklpecjcebekaaW.PrintWords.bytesOf s).length = acc.length + s.size := by rw [List.length_append, YtcklpecjcebekaaW.PrintWords.bytesOf_length]
  unfold BRow
  rw [hc, hl2]; exact ho
theorem wpl_bytes {rest : List Oper} (base : Nat) (hg : o.guard = none) (d x : Operand) (hop : o.op = Op.call { callee := Callee.builtin Builtin.append, args := #[d, x], argTypes := #[24, 24] })
    (v : Value) (acc zs : List Int) (A : Addr) (m c : Nat) (hd : a.eval d = v) (hx : a.eval x = .slice (some A) m c) (hm : zs.length = m) (hO : BRow W base v acc) (hz : ∀ j u, (nums .u8 zs)[j]? = some u → W.cell? (A.add j) = some u)
    (hbase : base ≤ W.heap.size) (hl : acc.length + zs.length ≤ 140737488355328)
    (hK : ∀ v1 w1, BRow w1 base v1 (acc ++ zs) → W.grownBy w1 v.ownBlock → wpList Try.prog ops Q rest (a.put o.dst v1) w1) : wpList Try.prog ops Q (o :: rest) a W := by
  refine wpList_plain hg fun K' hK' => ?_
  have := step_bytes (ops := ops) (K := K') (Q := Q) (E := True) base hg d x hop v acc zs A m c hd hx hm hO hz hbase hl (fun v1 w1 h1 h2 => hK' _ _ (hK v1 w1 h1 h2))
  rwa [if_pos (by simp [Region.wanted, hg])] at this
end
end Go.Proofs.Ytcklpecjcebekaa.PAll
end
section
/- dirs.Print: a directory told as bytes. -/
namespace Go.Proofs.Ytcklpecjcebekaa.PAll
open Go.RowKit Go.Shelf Go.Lib Go.Proofs.YtcklpecjcebekaaW.PrintWords Go.Proofs.YtcklpecjcebekaaW.PrintLast Go.Proofs.YtcklpecjcebekaaW.PrintMore Go.Proofs.Ytcklpecjcebekaa.Sp
attribute [local go_sem] Oper.semAt_some
set_option linter.unusedVariables false
set_option linter.unusedSimpArgs false

def nameBytes (x : S37) : List Int := [IntKind.u8.wrap (x.f0.size : Int)] ++ YtcklpecjcebekaaW.PrintWords.bytesOf x.f0 ++ [x.f1 % 256, x.f1 / 256 % 256]
def dirBytes (l : List S37) : List Int := l.flatMap nameBytes
def dirs_Print.f (l0 : List S37) : Option (List Int × Int) := if rightL l0 then some (dirBytes l0, 0) else some ([], 70)

theorem dirBytes_succ (l : List S37) (k : Nat) (h : k < l.length) : dirBytes (l.take (k + 1)) = dirBytes (l.take k) ++ nameBytes (rd_T37 l (k : Int)) := by
  rw [rd_get l k h, List.take_succ_eq_append_getElem h]
  simp only [dirBytes, List.flatMap_append, List.flatMap_cons, List.flatMap_nil, List.append_nil]
theorem right_names : ∀ {l : List S37} {last : List UInt8}, rightFrom last l = true → ∀ x ∈ l, x.f0.size ≤ 32
  | [], _, _, x, hx => by cases hx
  | y :: r, last, h, x, hx => by
    simp only [rightFrom, Bool.and_eq_true] at h
    rcases List.mem_cons.1 hx with rfl | hx
    · have := h.1.1.1
      simp only [isName, Bool.and_eq_true, decide_eq_true_eq] at this
      rw [Lib.size_eq]; exact this.1.1.1.2
    · exact right_names h.2 x hx
theorem dirBytes_le : ∀ {l : List S37}, (∀ x ∈ l, x.f0.size ≤ 32) → (dirBytes l).length ≤ l.length * 35
  | [], _ => by simp [dirBytes]
  | y :: r, h => by
    have ih := dirBytes_le (l := r) fun x hx => h x (by simp [hx])
    have hy := h y (by simp)
    have e : dirBytes (y :: r) = nameBytes y ++ dirBytes r := by simp [dirBytes]
    have e2 : (nameBytes y).length = y.f0.size + 3 := by
      unfold nameBytes
      rw [List.length_append, List.length_append, YtcklpecjcebekaaW.PrintWords.bytesOf_length]; simp; omega
    rw [e, List.length_append, e2, List.length_cons]
    omega
theorem own_below {w0 W w1 : World} {v : Value} {acc : List Int} (h : Below w0.heap.size w0 W) (hO : BRow W w0.heap.size v acc) (hg : W.grownBy w1 v.ownBlock) : Below w0.heap.size w0 w1 :=
  h.grown hg h.size (own_base hO)

set_option maxHeartbeats 4000000 in
set_option maxRecDepth 100000 in
theorem dirs_Print.calls (A0 : Option Addr) (c0 : Nat) (l0 : List (S37)) (r1 : List Int) (r2 : Int) (w : World) (hr0 : Kd.C k37 w A0 l0.length l0) (hc0 : l0.length ≤ c0) (h : dirs_Print.f l0 = some (r1, r2)) :
    Calls Try.prog 9 #[.slice A0 l0.length c0] w fun e w' => ∃ v0_ : Value, e = .returned (.tuple #[v0_, .int .i64 r2]) ∧ Kd.R (Kd.int .u8) 5 w' w.heap.size (fun _ => True) v0_ r1 ∧ Below w.heap.size w w' := by
  have hl63 : l0.length ≤ 9223372036854775807 := hr0.2.1
  have cR : ∀ W, Below w.heap.size w W → Calls Try.prog 25 #[.slice A0 l0.length c0] W fun e w' => e = .returned (.bool (rightL l0)) ∧ Below W.heap.size W w' := fun W hW => by
    obtain ⟨k, hk⟩ := Ev.rounds (right_f l0 hl63)
    exact dirs_right.calls k A0 c0 l0 _ W (Kd.C_below hr0 hW) hc0 hk
  have HC := Aside0.mk hr0
  unfold dirs_Print.f at h
  cases hR : rightL l0 with
  | false =>
    rw [hR] at h cR
    simp at h
    obtain ⟨rfl, rfl⟩ := h
    clear hr0 hR
    go_enter Try.func9, Try.ntmps9
    go_wp2_with fail
    refine (cR _ (Below.refl _ _)).mono ?_
    rintro e w2 ⟨rfl, hb⟩
    go_wp2
    go_ret2
    exact ⟨_, rfl, Kd.R_nil _ _ _ _ _, hb⟩
  | true =>
    rw [hR] at h cR
    simp at h
    obtain ⟨rfl, rfl⟩ := h
    have HR := Aside0.mk hR
    clear hr0 hR
    have hu37 := Try.underlying37
    go_enter Try.func9, Try.ntmps9
    go_wp2_with fail
    refine (cR _ (Below.refl _ _)).mono ?_
    rintro e w2 ⟨rfl, hb⟩
    have HB2 := Aside0.mk hb
    clear hb
    go_wp2_with fail
    go_loopw [4, 12] (fun v i W => ∃ k : Nat, i = .int .i64 (k : Int) ∧ k ≤ l0.length ∧ Aside0 (W.ownsRow w.heap.size 5 1 v (dirBytes (l0.take k)).length (nums .u8 (dirBytes (l0.take k)))) ∧ Aside0 (Below w.heap.size w W)) (fun _ i _ => l0.length - (intOf i).toNat)
    case atStart => exact ⟨0, rfl, by omega, Aside0.mk (own_nil _ _ _ _), HB2⟩
    case round =>
      obtain ⟨k, rfl, hk, HO, HB⟩ := hrel
      by_cases hlt : k < l0.length
      · have t1 : decide ((k : Int) < (l0.length : Int)) = true := decide_eq_true (by omega)
        have t3 : (k : Int) < (l0.length : Int) := by omega
        obtain ⟨ad, rfl, h0, h1⟩ := at_T37 HC.out (k : Int) (by omega) (by omega)
        have g0 := (HB.out.cell (World.block_lt_of_cell? w _ h0)).trans h0
        have g1 := (HB.out.cell (World.block_lt_of_cell? w _ h1)).trans h1
        clear h0 h1
        simp only [Int.toNat_natCast] at g0 g1
        obtain ⟨acc, hacc⟩ : ∃ acc, acc = dirBytes (l0.take k) := ⟨_, rfl⟩
        have HO' : Aside0 (BRow wr w.heap.size u4 acc) := Aside0.mk (by rw [hacc]; exact HO.out)
        have hrl := HR.out
        simp only [rightL, Bool.and_eq_true, decide_eq_true_eq] at hrl
        have hlen : acc.length ≤ 1073741824 := by
          have h1 := dirBytes_le (l := l0.take k) fun x hx => right_names hrl.1 x (List.mem_of_mem_take hx)
          have h2 : (l0.take k).length ≤ 256 := by rw [List.length_take]; omega
          rw [hacc]; omega
        have hss0 : (rd_T37 l0 (k : Int)).f0.size ≤ 32 := by rw [rd_get l0 k hlt]; exact right_names hrl.1 _ (List.getElem_mem hlt)
        clear hrl
        have hb0 : w.heap.size ≤ wr.heap.size := HB.out.size
        obtain ⟨s, hs⟩ : ∃ s, (rd_T37 l0 (k : Int)).f0 = s := ⟨_, rfl⟩
        obtain ⟨n, hn⟩ : ∃ n, (rd_T37 l0 (k : Int)).f1 = n := ⟨_, rfl⟩
        rw [hs] at g0
        rw [hn] at g1
        have hss : s.size ≤ 32 := by rw [← hs]; exact hss0
        have HN := Aside0.mk (And.intro hs hn)
        have HACC := Aside0.mk hacc
        clear HO hs hn hacc hss0
        have hbx0 : (wr.alloc (.cells #[.string s, .int .i64 n] 37)).cell? ⟨wr.heap.size, 0, none⟩ = some (.string s) := by simp
        have hbx1 : (wr.alloc (.cells #[.string s, .int .i64 n] 37)).cell? ⟨wr.heap.size, 1, none⟩ = some (.int .i64 n) := by simp
        go_wp2_with fail
        have mixed : Try.prog.follows .mixedOrders = true := by kernel_rfl
        have hsz1 : (wr.alloc (.cells #[.string s, .int .i64 n] 37)).heap.size = wr.heap.size + 1 := by simp
        have hone : ∀ W : World, W.heap[wr.heap.size + 1]? = some (.cells #[.int .u8 (IntKind.u8.wrap (s.size : Int))] 5 (0, 0)) → ∀ j u, (nums .u8 [IntKind.u8.wrap (s.size : Int)])[j]? = some u → W.cell? ((⟨wr.heap.size + 1, 0, none⟩ : Addr).add j) = some u := fun W hW j u hu => by
          rw [add_lit, cell_row hW, ← Array.getElem?_toList, Nat.zero_add]; exact hu
        have hnew : ((wr.alloc (.cells #[.string s, .int .i64 n] 37)).alloc (.cells #[.int .u8 (IntKind.u8.wrap (s.size : Int))] 5)).heap[wr.heap.size + 1]? = some (.cells #[.int .u8 (IntKind.u8.wrap (s.size : Int))] 5 (0, 0)) := by
          have := heap_alloc_new (wr.alloc (.cells #[.string s, .int .i64 n] 37)) (.cells #[.int .u8 (IntKind.u8.wrap (s.size : Int))] 5)
          rwa [hsz1] at this
        have hbxh : ((wr.alloc (.cells #[.string s, .int .i64 n] 37)).alloc (.cells #[.int .u8 (IntKind.u8.wrap (s.size : Int))] 5)).heap[wr.heap.size]? = some (.cells #[.string s, .int .i64 n] 37 (0, 0)) := (heap_alloc_old _ _ (by simp)).trans (heap_alloc_new wr _)
        have HBXH := Aside0.mk hbxh
        have hne0 := not_box (World.ownsRow.alloc (World.ownsRow.alloc HO'.out (.cells #[.string s, .int .i64 n] 37)) (.cells #[.int .u8 (IntKind.u8.wrap (s.size : Int))] 5)) hbxh (by decide)
        have HNE0 := Aside0.mk hne0
        clear hbxh hne0
        have HNEW := Aside0.mk hnew
        have HONE := Aside0.mk hone
        have HS1 := Aside0.mk hsz1
        clear hnew hone hsz1
        go_region_law_o (first
          | (refine step_bytes w.heap.size rfl (.tmp 16) (.tmp 21) rfl u4 acc [IntKind.u8.wrap (s.size : Int)] ⟨wr.heap.size + 1, 0, none⟩ 1 1 (by simp [Act.eval, Act.put]) (by simp [Act.eval, Act.put]) rfl (World.ownsRow.alloc (World.ownsRow.alloc HO'.out (.cells #[.string s, .int .i64 n] 37)) (.cells #[.int .u8 (IntKind.u8.wrap (s.size : Int))] 5)) (HONE.out _ HNEW.out) (by simp; omega) (by simp; omega) (fun v1 w1 ho1 hg1 => ?_); have hq1 : w1.heap[wr.heap.size]? = some (.cells #[.string s, .int .i64 n] 37 (0, 0)) := (hg1.block _ (by simp; omega) HNE0.out).trans HBXH.out; have hc10 : w1.cell? ⟨wr.heap.size, 0, none⟩ = some (.string s) := by rw [cell_row hq1]; rfl)
          | (refine step_str w.heap.size rfl (.tmp 22) (.tmp 24) rfl v1 (acc ++ [IntKind.u8.wrap (s.size : Int)]) s (by simp [Act.eval, Act.put]) (by simp [Act.eval, Act.put]) ho1 (Nat.le_trans hb0 (Nat.le_trans (by simp; omega) hg1.size)) (by simp; omega) (fun v2 w2' ho2 hg2 => ?_)))
        all_goals
          have hq2 : w2'.heap[wr.heap.size]? = some (.cells #[.string s, .int .i64 n] 37 (0, 0)) := (hg2.block _ (Array.getElem?_eq_some_iff.1 hq1).1 (not_box ho1 hq1 (by decide))).trans hq1
          have hc21 : w2'.cell? ⟨wr.heap.size, 1, none⟩ = some (.int .i64 n) := by rw [cell_row hq2]; rfl
          clear HNEW HONE
          have hb2 : w.heap.size ≤ w2'.heap.size := Nat.le_trans hb0 (Nat.le_trans (by simp; omega) (Nat.le_trans hg1.size hg2.size))
          have hl2 : (acc ++ [IntKind.u8.wrap (s.size : Int)] ++ YtcklpecjcebekaaW.PrintWords.bytesOf s).length + 2 ≤ 140737488355328 := by
            rw [List.length_append, List.length_append, YtcklpecjcebekaaW.PrintWords.bytesOf_length]; simp; omega
          go_wp2_with (at_builtin; refine wpl_bytes w.heap.size rfl (.tmp 26) (.tmp 34) rfl v2 _ [n % 256, n / 256 % 256] ⟨w2'.heap.size, 0, none⟩ 2 2 rfl rfl rfl (World.ownsRow.alloc ho2 _) (fun j u hu => by rw [add_lit, cell_row (heap_alloc_new w2' _), ← Array.getElem?_toList, Nat.zero_add]; exact hu) (by simp; omega) hl2 (fun v3 w3 ho3 hg3 => ?_))
          have hB0 : Below w.heap.size w ((wr.alloc (.cells #[.string s, .int .i64 n] 37)).alloc (.cells #[.int .u8 (IntKind.u8.wrap (s.size : Int))] 5)) := (HB.out.alloc hb0 _).alloc (by simp; omega) _
          have hB1 : Below w.heap.size w w1 := by
            have hO0 : BRow ((wr.alloc (.cells #[.string s, .int .i64 n] 37)).alloc (.cells #[.int .u8 (IntKind.u8.wrap (s.size : Int))] 5)) w.heap.size u4 acc := World.ownsRow.alloc (World.ownsRow.alloc HO'.out _) _
            first | exact own_below hB0 hO0 hg1 | exact own_below (below_drew1 hB0) (own_drew hO0) hg1
          have hB2 : Below w.heap.size w w2' := own_below hB1 ho1 hg2
          have hB3 : Below w.heap.size w w3 := own_below (hB2.alloc hb2 _) (World.ownsRow.alloc ho2 _) hg3
          refine ⟨⟨k + 1, rfl, by omega, Aside0.mk ?_, Aside0.mk hB3⟩, by simp [intOf]; omega⟩
          have e : dirBytes (l0.take (k + 1)) = acc ++ [IntKind.u8.wrap (s.size : Int)] ++ YtcklpecjcebekaaW.PrintWords.bytesOf s ++ [n % 256, n / 256 % 256] := by
            rw [dirBytes_succ l0 k hlt, ← HACC.out, nameBytes, HN.out.1, HN.out.2]; simp
          rw [e]; exact ho3
      · have hkl : k = l0.length := by omega
        have t1 : decide ((k : Int) < (l0.length : Int)) = false := decide_eq_false (by omega)
        have HO2 : BRow wr w.heap.size u4 (dirBytes l0) := by have := HO.out; rwa [hkl, List.take_length] at this
        have HOO := Aside0.mk HO2
        clear HO HO2
        go_wp2
        go_ret2
        exact ⟨_, rfl, Kd.R_of_own HOO.out (fun _ _ => trivial), HB.out⟩
end Go.Proofs.Ytcklpecjcebekaa.PAll
end
section
/- Adding to, and removing from, a directory makes one: plain Lean. -/
namespace Go.Proofs.Ytcklpecjcebekaa.PAll
open Go.RowKit Go.Lib Go.Proofs.Ytcklpecjcebekaa Go.Proofs.Ytcklpecjcebekaa.Sp

theorem less_trans {a b c : List UInt8} (h : Op.bytesLess a b = true) (k : Op.bytesLess b c = true) : Op.bytesLess a c = true := by
  rw [less_iff, decide_eq_true_eq] at *
  exact List.lt_trans h k
theorem less_irrefl (a : List UInt8) : Op.bytesLess a a = false := by
  rw [less_iff, decide_eq_false_iff_not]; exact List.lt_irrefl a
theorem less_or {a b : List UInt8} (h : Op.bytesLess a b = false) (hne : b ≠ a) : Op.bytesLess b a = true := by
  have := leq_swap b a
  rw [h] at this
  simpa [hne] using this

theorem idxL_cons (p : S37 → Bool) (x : S37) (r : List S37) : idxL p (x :: r) = if p x then 0 else if idxL p r < 0 then -1 else idxL p r + 1 := by
  unfold idxL
  rw [List.findIdx?_cons]
  cases p x with
  | true => rfl
  | false =>
    cases h : r.findIdx? p with
    | none => simp
    | some i => simp; omega
theorem slot_cons (x : S37) (r : List S37) (s : ByteArray) : slot (x :: r) s = if Op.bytesLess s.toList x.f0.toList then 0 else slot r s + 1 := by
  unfold slot
  dsimp only
  rw [idxL_cons]
  have hr := idxL_range (fun x => Op.bytesLess s.toList x.f0.toList) r
  by_cases h : Op.bytesLess s.toList x.f0.toList = true
  · rw [if_pos h, if_pos h, if_neg (by omega)]; rfl
  · rw [if_neg h, if_neg h]
    by_cases h2 : idxL (fun x => Op.bytesLess s.toList x.f0.toList) r < 0
    · rw [if_pos h2, if_pos h2, if_pos (by omega), List.length_cons]
    · rw [if_neg h2, if_neg h2, if_neg (by omega)]; omega
def ins (l : List S37) (s : ByteArray) (n : Int) : List S37 := l.take (slot l s) ++ ⟨s, n⟩ :: l.drop (slot l s)
theorem ins_cons (x : S37) (r : List S37) (s : ByteArray) (n : Int) : ins (x :: r) s n = if Op.bytesLess s.toList x.f0.toList then ⟨s, n⟩ :: x :: r else x :: ins r s n := by
  unfold ins
  rw [slot_cons]
  split <;> simp
theorem ins_length (l : List S37) (s : ByteArray) (n : Int) : (ins l s n).length = l.length + 1 := by
  unfold ins; have := slot_le l s; simp; omega
theorem ins_right : ∀ {l : List S37} {last : List UInt8} {s : ByteArray} {n : Int}, rightFrom last l = true → Op.bytesLess last s.toList = true → isName s.data.toList = true → okInode n = true → (∀ x ∈ l, x.f0.toList ≠ s.toList) → rightFrom last (ins l s n) = true
  | [], last, s, n, _, h1, h2, h3, _ => by
    show rightFrom last [⟨s, n⟩] = true
    simp [rightFrom, h1, h2, h3]
  | x :: r, last, s, n, h, h1, h2, h3, hne => by
    rw [ins_cons]
    simp only [rightFrom, Bool.and_eq_true] at h
    split
    · rename_i hs
      simp [rightFrom, h1, h2, h3, hs, h.1.1.1, h.1.1.2, h.2]
    · rename_i hs
      have hs' : Op.bytesLess s.toList x.f0.toList = false := by simpa using hs
      have hx := less_or hs' (hne x (by simp))
      have ih := ins_right (l := r) (n := n) h.2 hx h2 h3 (fun y hy => hne y (by simp [hy]))
      simp [rightFrom, h.1.1.1, h.1.1.2, h.1.2, ih]
theorem right_weaken {r : List S37} {a b : List UInt8} (h : rightFrom b r = true) (k : Op.bytesLess a b = true) : rightFrom a r = true := by
  cases r with
  | nil => rfl
  | cons y t =>
    simp only [rightFrom, Bool.and_eq_true] at h ⊢
    exact ⟨⟨h.1.1, less_trans k h.1.2⟩, h.2⟩
theorem cut_right : ∀ {l : List S37} {last : List UInt8} (k : Nat), rightFrom last l = true → rightFrom last (l.take k ++ l.drop (k + 1)) = true
  | [], last, k, h => by simpa using h
  | x :: r, last, 0, h => by
    simp only [rightFrom, Bool.and_eq_true] at h
    simpa using right_weaken h.2 h.1.2
  | x :: r, last, k + 1, h => by
    simp only [rightFrom, Bool.and_eq_true] at h
    have ih := cut_right k h.2
    simp [rightFrom, h.1.1.1, h.1.1.2, h.1.2, ih]
end Go.Proofs.Ytcklpecjcebekaa.PAll
end
section
-- Written by a tool of the kit (print.py) over the laws of this seat at once; Lean checks it.
namespace Go.Proofs.Ytcklpecjcebekaa.PAll
open Go.RowKit Go.Proofs.YtcklpecjcebekaaW.PrintWords Go.Proofs.YtcklpecjcebekaaW.PrintLast Go.Proofs.YtcklpecjcebekaaW.PrintMore
attribute [local go_sem] max2_int min2_int max_two min_two max_three min_three max_four min_four   -- for this text's walks alone
set_option linter.unusedVariables false
set_option linter.unusedSimpArgs false

theorem eqA37 (d : Nat) (w : World) (x0 y0 : ByteArray) (x1 y1 : Int) :
    (Op.equalIn (d + 2) 37 (.agg #[.string x0, .int .i64 x1]) (.agg #[.string y0, .int .i64 y1])).run Try.prog w = .ok (x0.toList == y0.toList && (x1 == y1)) w := by
  refine eqA_of Try.underlying37 (by kernel_rfl) ?_
  refine eqf_cons (by rfl) (by go_simp; rfl) (by go_simp; rfl) (by go_simp) ?_
  exact eqf_last (by rfl) (by go_simp; rfl) (by go_simp; rfl) (by go_simp)
end Go.Proofs.Ytcklpecjcebekaa.PAll
end
section
-- Written by a tool of the kit (print.py) over the laws of this seat at once; Lean checks it.
namespace Go.Proofs.Ytcklpecjcebekaa.PAll
open Go.RowKit Go.Proofs.YtcklpecjcebekaaW.PrintWords Go.Proofs.YtcklpecjcebekaaW.PrintLast Go.Proofs.YtcklpecjcebekaaW.PrintMore
attribute [local go_sem] max2_int min2_int max_two min_two max_three min_three max_four min_four   -- for this text's walks alone
set_option linter.unusedVariables false
set_option linter.unusedSimpArgs false

attribute [local go_sem high] eqA37
/-! ### sutlerbase_SameNames: function 17 -/
def sutlerbase_SameNames.l0 : Nat → List (S37) → List (S37) → Int → Option (Bool)
  | 0, _, _, _ => none
  | k + 1, x0, x1, x5 => if x5 < (x0.length : Int) then (if 0 ≤ x5 then (if x5 < (x1.length : Int) then (if (!((((rd_T37 x0 x5).f0).toList) == (((rd_T37 x1 x5).f0).toList)) || (!(((rd_T37 x0 x5).f1) == ((rd_T37 x1 x5).f1)))) = true then (some false) else (sutlerbase_SameNames.l0 k x0 x1 (wrap64 (x5 + 1)))) else (none)) else (none)) else (some true)
def sutlerbase_SameNames.f (k : Nat) (l0 : List (S37)) (l1 : List (S37)) : Option (Bool) := if (l0.length : Int) = (l1.length : Int) then (sutlerbase_SameNames.l0 k l0 l1 0) else (some false)
theorem sutlerbase_SameNames.mono_l : ∀ k, (∀ y0 y1 y2, LeO (sutlerbase_SameNames.l0 k y0 y1 y2) (sutlerbase_SameNames.l0 (k + 1) y0 y1 y2))
  | 0 => fun _ _ _ r h => by simp [sutlerbase_SameNames.l0] at h
  | k + 1 => by
    have ih0 := sutlerbase_SameNames.mono_l k
    · intro y0 y1 y2
      unfold sutlerbase_SameNames.l0
      repeat' first
      | (with_reducible exact ih0 _ _ _)
      | (with_reducible exact LeO.refl _)
      | (with_reducible exact LeO.none _)
      | (with_reducible refine LeO.ite ?_ ?_)
      | (with_reducible refine LeO.bind ?_ (fun _ => ?_))
      | exact ih0 _ _ _
      | exact LeO.none _
      | refine LeO.ite ?_ ?_
      | refine LeO.bind ?_ (fun _ => ?_)
theorem sutlerbase_SameNames.mono : ∀ a0 a1 k, LeO (sutlerbase_SameNames.f k a0 a1) (sutlerbase_SameNames.f (k + 1) a0 a1) := by
  intro a0 a1 k
  have ih0 := sutlerbase_SameNames.mono_l k
  unfold sutlerbase_SameNames.f
  repeat' first
      | (with_reducible exact ih0 _ _ _)
      | (with_reducible exact LeO.refl _)
      | (with_reducible exact LeO.none _)
      | (with_reducible refine LeO.ite ?_ ?_)
      | (with_reducible refine LeO.bind ?_ (fun _ => ?_))
      | exact ih0 _ _ _
      | exact LeO.none _
      | refine LeO.ite ?_ ?_
      | refine LeO.bind ?_ (fun _ => ?_)
set_option maxHeartbeats 8000000 in
set_option maxRecDepth 100000 in
theorem sutlerbase_SameNames.calls (k : Nat) (A0 : Option Addr) (c0 : Nat) (l0 : List (S37)) (A1 : Option Addr) (c1 : Nat) (l1 : List (S37)) (r : Bool) (w : World) (hr0 : Kd.C k37 w A0 l0.length l0) (hc0 : l0.length ≤ c0) (hr1 : Kd.C k37 w A1 l1.length l1) (hc1 : l1.length ≤ c1) (h : sutlerbase_SameNames.f k l0 l1 = some r) :
    Calls Try.prog 17 #[.slice A0 l0.length c0, .slice A1 l1.length c1] w fun e w' => e = .returned (.bool r) ∧ Drawn0 w w' := by
  have hu37 := Try.underlying37
  have HR0 := Aside0.mk hr0
  have HC0 := Aside0.mk hc0
  clear hr0 hc0
  have HR1 := Aside0.mk hr1
  have HC1 := Aside0.mk hc1
  clear hr1 hc1
  have H : (if (l0.length : Int) = (l1.length : Int) then (sutlerbase_SameNames.l0 k l0 l1 0) else (some false)) = some r := h
  clear h
  by_cases c3 : (l0.length : Int) = (l1.length : Int)
  · rw [if_pos c3] at H
    have c3b0 : ((l0.length : Int) == (l1.length : Int)) = true := beq_iff_eq.mpr c3
    have c3b1 : ((l0.length : Int) != (l1.length : Int)) = false := bne_eq_false_iff_eq.mpr c3
    have c3b2 : (l0.length == l1.length) = true := by first | simpa using c3 | (simp at c3 ⊢; omega)
    clear c3
    have H' := Aside0.mk H
    clear H
    go_enter Try.func17, Try.ntmps17
    go_wp2
    repeat (go_quiet (fail); try go_wp2)
    go_loopg [5] k (fun kq v5 w' => ∃ (x5_1 : Int), v5 = .int .i64 x5_1 ∧ Aside0 (sutlerbase_SameNames.l0 kq l0 l1 x5_1 = some r) ∧ Aside0 (kq ≤ k) ∧ Drawn0 w w')
    case atStart => exact ⟨(0), (by first | rfl | (simp; done) | (simp [*]; done)), H', ⟨Nat.le_refl _⟩, by repeat (first | exact Drawn0.refl _ | apply Drawn0.step)⟩
    case round =>
      clear H'
      try clear c1
      try clear p2
      try clear c3
      try clear c3b0
      try clear c3b1
      try clear c3b2
      obtain ⟨x5_1, rfl, HA, HK1, ⟨m1, rfl⟩⟩ := hrel
      cases gk with
      | zero => exact absurd HA.out (by simp [sutlerbase_SameNames.l0])
      | succ k1 =>
        have H := HA.out
        clear HA
        simp only [sutlerbase_SameNames.l0] at H
        by_cases c4 : x5_1 < (l0.length : Int)
        · rw [if_pos c4] at H
          have c4b0 : decide (x5_1 < (l0.length : Int)) = true := decide_eq_true c4
          clear c4
          by_cases c5 : 0 ≤ x5_1
          · rw [if_pos c5] at H
            have c5b0 : decide (0 ≤ x5_1) = true := decide_eq_true c5
            clear c5
            by_cases c6 : x5_1 < (l1.length : Int)
            · rw [if_pos c6] at H
              have c6b0 : decide (x5_1 < (l1.length : Int)) = true := decide_eq_true c6
              clear c6
              by_cases c7 : (!((((rd_T37 l0 x5_1).f0).toList) == (((rd_T37 l1 x5_1).f0).toList)) || (!(((rd_T37 l0 x5_1).f1) == ((rd_T37 l1 x5_1).f1)))) = true
              · rw [if_pos c7] at H
                have c7b0 : (!((((rd_T37 l0 x5_1).f0).toList) == (((rd_T37 l1 x5_1).f0).toList)) || (!(((rd_T37 l0 x5_1).f1) == ((rd_T37 l1 x5_1).f1)))) = true := c7
                clear c7
                obtain rfl := Option.some.inj H
                have p120 : 0 ≤ (x5_1 : Int) := of_decide_eq_true (by first | (with_reducible assumption) | assumption)
                have q120 : x5_1 < (l0.length : Int) := of_decide_eq_true (by first | (with_reducible assumption) | assumption)
                obtain ⟨ad120, e120, hx120_0, hx120_1⟩ := at_T37 HR0.out x5_1 p120 q120
                cases e120
                replace p120 := eq_true p120
                replace q120 := eq_true q120
                have p121 : 0 ≤ (x5_1 : Int) := of_decide_eq_true (by first | (with_reducible assumption) | assumption)
                have q121 : x5_1 < (l1.length : Int) := of_decide_eq_true (by first | (with_reducible assumption) | assumption)
                obtain ⟨ad121, e121, hx121_0, hx121_1⟩ := at_T37 HR1.out x5_1 p121 q121
                cases e121
                replace p121 := eq_true p121
                replace q121 := eq_true q121
                go_wp2
                repeat (go_quiet (fail); try go_wp2)
                go_ret
                exact ⟨by first | rfl | (simp; done) | (simp [*]; done), by repeat (first | exact Drawn0.refl _ | apply Drawn0.step)⟩
              · rw [if_neg c7] at H
                have c7b0 : (!((((rd_T37 l0 x5_1).f0).toList) == (((rd_T37 l1 x5_1).f0).toList)) || (!(((rd_T37 l0 x5_1).f1) == ((rd_T37 l1 x5_1).f1)))) = false := by simpa using c7
                clear c7
                have H' := Aside0.mk H
                clear H
                have p120 : 0 ≤ (x5_1 : Int) := of_decide_eq_true (by first | (with_reducible assumption) | assumption)
                have q120 : x5_1 < (l0.length : Int) := of_decide_eq_true (by first | (with_reducible assumption) | assumption)
                obtain ⟨ad120, e120, hx120_0, hx120_1⟩ := at_T37 HR0.out x5_1 p120 q120
                cases e120
                replace p120 := eq_true p120
                replace q120 := eq_true q120
                have p121 : 0 ≤ (x5_1 : Int) := of_decide_eq_true (by first | (with_reducible assumption) | assumption)
                have q121 : x5_1 < (l1.length : Int) := of_decide_eq_true (by first | (with_reducible assumption) | assumption)
                obtain ⟨ad121, e121, hx121_0, hx121_1⟩ := at_T37 HR1.out x5_1 p121 q121
                cases e121
                replace p121 := eq_true p121
                replace q121 := eq_true q121
                go_wp2
                repeat (go_quiet (fail); try go_wp2)
                go_roundg k1
                case measure => have := HK1.out; omega
                case rel => exact ⟨(wrap64 (x5_1 + 1)), (by first | rfl | (simp; done) | (simp [*]; done)), H', ⟨by have := HK1.out; omega⟩, by repeat (first | exact Drawn0.refl _ | apply Drawn0.step)⟩
            · rw [if_neg c6] at H
              exact absurd H (by simp)
          · rw [if_neg c5] at H
            exact absurd H (by simp)
        · rw [if_neg c4] at H
          have c4b0 : decide (x5_1 < (l0.length : Int)) = false := decide_eq_false c4
          clear c4
          obtain rfl := Option.some.inj H
          go_wp2
          repeat (go_quiet (fail); try go_wp2)
          go_ret
          exact ⟨by first | rfl | (simp; done) | (simp [*]; done), by repeat (first | exact Drawn0.refl _ | apply Drawn0.step)⟩
  · rw [if_neg c3] at H
    have c3b0 : ((l0.length : Int) == (l1.length : Int)) = false := beq_eq_false_iff_ne.mpr c3
    have c3b1 : ((l0.length : Int) != (l1.length : Int)) = true := bne_iff_ne.mpr c3
    have c3b2 : (l0.length == l1.length) = false := by first | simpa using c3 | (simp at c3 ⊢; omega)
    obtain rfl := Option.some.inj H
    go_enter Try.func17, Try.ntmps17
    go_wp2
    repeat (go_quiet (fail); try go_wp2)
    go_ret
    exact ⟨by first | rfl | (simp; done) | (simp [*]; done), by repeat (first | exact Drawn0.refl _ | apply Drawn0.step)⟩

end Go.Proofs.Ytcklpecjcebekaa.PAll
end
section
-- Written by a tool of the kit (print.py) over the laws of this seat at once; Lean checks it.
namespace Go.Proofs.Ytcklpecjcebekaa.PAll
open Go.RowKit Go.Proofs.YtcklpecjcebekaaW.PrintWords Go.Proofs.YtcklpecjcebekaaW.PrintLast Go.Proofs.YtcklpecjcebekaaW.PrintMore
attribute [local go_sem] max2_int min2_int max_two min_two max_three min_three max_four min_four   -- for this text's walks alone
set_option linter.unusedVariables false
set_option linter.unusedSimpArgs false

/-! ### sutlerbase_SameBytes: function 22 -/
def sutlerbase_SameBytes.l0 : Nat → List Int → List Int → Int → Option (Bool)
  | 0, _, _, _ => none
  | k + 1, x0, x1, x5 => if x5 < (x0.length : Int) then (if 0 ≤ x5 then (if x5 < (x1.length : Int) then (if (rd x0 x5) = (rd x1 x5) then (sutlerbase_SameBytes.l0 k x0 x1 (wrap64 (x5 + 1))) else (some false)) else (none)) else (none)) else (some true)
def sutlerbase_SameBytes.f (k : Nat) (l0 : List Int) (l1 : List Int) : Option (Bool) := if (l0.length : Int) = (l1.length : Int) then (sutlerbase_SameBytes.l0 k l0 l1 0) else (some false)
theorem sutlerbase_SameBytes.mono_l : ∀ k, (∀ y0 y1 y2, LeO (sutlerbase_SameBytes.l0 k y0 y1 y2) (sutlerbase_SameBytes.l0 (k + 1) y0 y1 y2))
  | 0 => fun _ _ _ r h => by simp [sutlerbase_SameBytes.l0] at h
  | k + 1 => by
    have ih0 := sutlerbase_SameBytes.mono_l k
    · intro y0 y1 y2
      unfold sutlerbase_SameBytes.l0
      repeat' first
      | (with_reducible exact ih0 _ _ _)
      | (with_reducible exact LeO.refl _)
      | (with_reducible exact LeO.none _)
      | (with_reducible refine LeO.ite ?_ ?_)
      | (with_reducible refine LeO.bind ?_ (fun _ => ?_))
      | exact ih0 _ _ _
      | exact LeO.none _
      | refine LeO.ite ?_ ?_
      | refine LeO.bind ?_ (fun _ => ?_)
theorem sutlerbase_SameBytes.mono : ∀ a0 a1 k, LeO (sutlerbase_SameBytes.f k a0 a1) (sutlerbase_SameBytes.f (k + 1) a0 a1) := by
  intro a0 a1 k
  have ih0 := sutlerbase_SameBytes.mono_l k
  unfold sutlerbase_SameBytes.f
  repeat' first
      | (with_reducible exact ih0 _ _ _)
      | (with_reducible exact LeO.refl _)
      | (with_reducible exact LeO.none _)
      | (with_reducible refine LeO.ite ?_ ?_)
      | (with_reducible refine LeO.bind ?_ (fun _ => ?_))
      | exact ih0 _ _ _
      | exact LeO.none _
      | refine LeO.ite ?_ ?_
      | refine LeO.bind ?_ (fun _ => ?_)
set_option maxHeartbeats 8000000 in
set_option maxRecDepth 100000 in
theorem sutlerbase_SameBytes.calls (k : Nat) (A0 : Option Addr) (c0 : Nat) (l0 : List Int) (A1 : Option Addr) (c1 : Nat) (l1 : List Int) (r : Bool) (w : World) (hr0 : Kd.C (Kd.int .u8) w A0 l0.length l0) (hc0 : l0.length ≤ c0) (hr1 : Kd.C (Kd.int .u8) w A1 l1.length l1) (hc1 : l1.length ≤ c1) (h : sutlerbase_SameBytes.f k l0 l1 = some r) :
    Calls Try.prog 22 #[.slice A0 l0.length c0, .slice A1 l1.length c1] w fun e w' => e = .returned (.bool r) ∧ Drawn0 w w' := by
  have HR0 := Aside0.mk hr0
  have HC0 := Aside0.mk hc0
  clear hr0 hc0
  have HR1 := Aside0.mk hr1
  have HC1 := Aside0.mk hc1
  clear hr1 hc1
  have H : (if (l0.length : Int) = (l1.length : Int) then (sutlerbase_SameBytes.l0 k l0 l1 0) else (some false)) = some r := h
  clear h
  by_cases c3 : (l0.length : Int) = (l1.length : Int)
  · rw [if_pos c3] at H
    have c3b0 : ((l0.length : Int) == (l1.length : Int)) = true := beq_iff_eq.mpr c3
    have c3b1 : ((l0.length : Int) != (l1.length : Int)) = false := bne_eq_false_iff_eq.mpr c3
    have c3b2 : (l0.length == l1.length) = true := by first | simpa using c3 | (simp at c3 ⊢; omega)
    clear c3
    have H' := Aside0.mk H
    clear H
    go_enter Try.func22, Try.ntmps22
    go_wp2
    repeat (go_quiet (fail); try go_wp2)
    go_loopg [5] k (fun kq v5 w' => ∃ (x5_1 : Int), v5 = .int .i64 x5_1 ∧ Aside0 (sutlerbase_SameBytes.l0 kq l0 l1 x5_1 = some r) ∧ Aside0 (kq ≤ k) ∧ Drawn0 w w')
    case atStart => exact ⟨(0), (by first | rfl | (simp; done) | (simp [*]; done)), H', ⟨Nat.le_refl _⟩, by repeat (first | exact Drawn0.refl _ | apply Drawn0.step)⟩
    case round =>
      clear H'
      try clear c1
      try clear c2
      try clear p2
      try clear c3
      try clear c3b0
      try clear c3b1
      try clear c3b2
      obtain ⟨x5_1, rfl, HA, HK1, ⟨m1, rfl⟩⟩ := hrel
      cases gk with
      | zero => exact absurd HA.out (by simp [sutlerbase_SameBytes.l0])
      | succ k1 =>
        have H := HA.out
        clear HA
        simp only [sutlerbase_SameBytes.l0] at H
        by_cases c4 : x5_1 < (l0.length : Int)
        · rw [if_pos c4] at H
          have c4b0 : decide (x5_1 < (l0.length : Int)) = true := decide_eq_true c4
          clear c4
          by_cases c5 : 0 ≤ x5_1
          · rw [if_pos c5] at H
            have c5b0 : decide (0 ≤ x5_1) = true := decide_eq_true c5
            clear c5
            by_cases c6 : x5_1 < (l1.length : Int)
            · rw [if_pos c6] at H
              have c6b0 : decide (x5_1 < (l1.length : Int)) = true := decide_eq_true c6
              clear c6
              by_cases c7 : (rd l0 x5_1) = (rd l1 x5_1)
              · rw [if_pos c7] at H
                have c7b0 : ((rd l0 x5_1) == (rd l1 x5_1)) = true := beq_iff_eq.mpr c7
                have c7b1 : ((rd l0 x5_1) != (rd l1 x5_1)) = false := bne_eq_false_iff_eq.mpr c7
                clear c7
                have H' := Aside0.mk H
                clear H
                have p122 : 0 ≤ (x5_1 : Int) := of_decide_eq_true (by first | (with_reducible assumption) | assumption)
                have q122 : x5_1 < (l0.length : Int) := of_decide_eq_true (by first | (with_reducible assumption) | assumption)
                obtain ⟨ad122, e122, hx122_0⟩ := Kd.at_int HR0.out x5_1 p122 q122
                cases e122
                replace p122 := eq_true p122
                replace q122 := eq_true q122
                have p123 : 0 ≤ (x5_1 : Int) := of_decide_eq_true (by first | (with_reducible assumption) | assumption)
                have q123 : x5_1 < (l1.length : Int) := of_decide_eq_true (by first | (with_reducible assumption) | assumption)
                obtain ⟨ad123, e123, hx123_0⟩ := Kd.at_int HR1.out x5_1 p123 q123
                cases e123
                replace p123 := eq_true p123
                replace q123 := eq_true q123
                go_wp2
                repeat (go_quiet (fail); try go_wp2)
                go_roundg k1
                case measure => have := HK1.out; omega
                case rel => exact ⟨(wrap64 (x5_1 + 1)), (by first | rfl | (simp; done) | (simp [*]; done)), H', ⟨by have := HK1.out; omega⟩, by repeat (first | exact Drawn0.refl _ | apply Drawn0.step)⟩
              · rw [if_neg c7] at H
                have c7b0 : ((rd l0 x5_1) == (rd l1 x5_1)) = false := beq_eq_false_iff_ne.mpr c7
                have c7b1 : ((rd l0 x5_1) != (rd l1 x5_1)) = true := bne_iff_ne.mpr c7
                obtain rfl := Option.some.inj H
                have p122 : 0 ≤ (x5_1 : Int) := of_decide_eq_true (by first | (with_reducible assumption) | assumption)
                have q122 : x5_1 < (l0.length : Int) := of_decide_eq_true (by first | (with_reducible assumption) | assumption)
                obtain ⟨ad122, e122, hx122_0⟩ := Kd.at_int HR0.out x5_1 p122 q122
                cases e122
                replace p122 := eq_true p122
                replace q122 := eq_true q122
                have p123 : 0 ≤ (x5_1 : Int) := of_decide_eq_true (by first | (with_reducible assumption) | assumption)
                have q123 : x5_1 < (l1.length : Int) := of_decide_eq_true (by first | (with_reducible assumption) | assumption)
                obtain ⟨ad123, e123, hx123_0⟩ := Kd.at_int HR1.out x5_1 p123 q123
                cases e123
                replace p123 := eq_true p123
                replace q123 := eq_true q123
                go_wp2
                repeat (go_quiet (fail); try go_wp2)
                go_ret
                exact ⟨by first | rfl | (simp; done) | (simp [*]; done), by repeat (first | exact Drawn0.refl _ | apply Drawn0.step)⟩
            · rw [if_neg c6] at H
              exact absurd H (by simp)
          · rw [if_neg c5] at H
            exact absurd H (by simp)
        · rw [if_neg c4] at H
          have c4b0 : decide (x5_1 < (l0.length : Int)) = false := decide_eq_false c4
          clear c4
          obtain rfl := Option.some.inj H
          go_wp2
          repeat (go_quiet (fail); try go_wp2)
          go_ret
          exact ⟨by first | rfl | (simp; done) | (simp [*]; done), by repeat (first | exact Drawn0.refl _ | apply Drawn0.step)⟩
  · rw [if_neg c3] at H
    have c3b0 : ((l0.length : Int) == (l1.length : Int)) = false := beq_eq_false_iff_ne.mpr c3
    have c3b1 : ((l0.length : Int) != (l1.length : Int)) = true := bne_iff_ne.mpr c3
    have c3b2 : (l0.length == l1.length) = false := by first | simpa using c3 | (simp at c3 ⊢; omega)
    obtain rfl := Option.some.inj H
    go_enter Try.func22, Try.ntmps22
    go_wp2
    repeat (go_quiet (fail); try go_wp2)
    go_ret
    exact ⟨by first | rfl | (simp; done) | (simp [*]; done), by repeat (first | exact Drawn0.refl _ | apply Drawn0.step)⟩

end Go.Proofs.Ytcklpecjcebekaa.PAll
end
section
-- Written by a tool of the kit (print.py) over the laws of this seat at once; Lean checks it.
namespace Go.Proofs.Ytcklpecjcebekaa.PAll
open Go.RowKit Go.Proofs.YtcklpecjcebekaaW.PrintWords Go.Proofs.YtcklpecjcebekaaW.PrintLast Go.Proofs.YtcklpecjcebekaaW.PrintMore
attribute [local go_sem] max2_int min2_int max_two min_two max_three min_three max_four min_four   -- for this text's walks alone
set_option linter.unusedVariables false
set_option linter.unusedSimpArgs false

/-! ### sutlerref07_Check: function 24 -/
mutual
def sutlerref07_Check.j0 : Nat → ByteArray → Bool → Option (Int)
  | 0, _, _ => none
  | k + 1, x0, x18 => if x18 = true then (some 71) else (sutlerref07_Check.l0 k x0 0)
def sutlerref07_Check.l0 : Nat → ByteArray → Int → Option (Int)
  | 0, _, _ => none
  | k + 1, x0, x3 => if x3 < (x0.size : Int) then (if 0 ≤ x3 then (if (bt x0 x3) < 33 then (some 71) else (if (bt x0 x3) > 126 then (some 71) else (if (bt x0 x3) = 47 then (some 71) else (sutlerref07_Check.l0 k x0 (wrap64 (x3 + 1)))))) else (none)) else (some 0)
end
def sutlerref07_Check.f (k : Nat) (a0 : ByteArray) : Option (Int) := if a0.toList = ([] : List UInt8) then (sutlerref07_Check.j0 k a0 true) else (if (a0.size : Int) > 32 then (sutlerref07_Check.j0 k a0 true) else (if a0.toList = ([46] : List UInt8) then (sutlerref07_Check.j0 k a0 true) else (sutlerref07_Check.j0 k a0 (a0.toList == ([46, 46] : List UInt8)))))
theorem sutlerref07_Check.mono_l : ∀ k, (∀ y0 y1, LeO (sutlerref07_Check.j0 k y0 y1) (sutlerref07_Check.j0 (k + 1) y0 y1)) ∧ (∀ y0 y1, LeO (sutlerref07_Check.l0 k y0 y1) (sutlerref07_Check.l0 (k + 1) y0 y1))
  | 0 => ⟨fun _ _ r h => by simp [sutlerref07_Check.j0] at h, fun _ _ r h => by simp [sutlerref07_Check.l0] at h⟩
  | k + 1 => by
    obtain ⟨ih0, ih1⟩ := sutlerref07_Check.mono_l k
    refine ⟨?_, ?_⟩
    · intro y0 y1
      unfold sutlerref07_Check.j0
      repeat' first
      | (with_reducible exact ih0 _ _)
      | (with_reducible exact ih1 _ _)
      | (with_reducible exact LeO.refl _)
      | (with_reducible exact LeO.none _)
      | (with_reducible refine LeO.ite ?_ ?_)
      | (with_reducible refine LeO.bind ?_ (fun _ => ?_))
      | exact ih0 _ _
      | exact ih1 _ _
      | exact LeO.none _
      | refine LeO.ite ?_ ?_
      | refine LeO.bind ?_ (fun _ => ?_)
    · intro y0 y1
      unfold sutlerref07_Check.l0
      repeat' first
      | (with_reducible exact ih0 _ _)
      | (with_reducible exact ih1 _ _)
      | (with_reducible exact LeO.refl _)
      | (with_reducible exact LeO.none _)
      | (with_reducible refine LeO.ite ?_ ?_)
      | (with_reducible refine LeO.bind ?_ (fun _ => ?_))
      | exact ih0 _ _
      | exact ih1 _ _
      | exact LeO.none _
      | refine LeO.ite ?_ ?_
      | refine LeO.bind ?_ (fun _ => ?_)
theorem sutlerref07_Check.mono : ∀ a0 k, LeO (sutlerref07_Check.f k a0) (sutlerref07_Check.f (k + 1) a0) := by
  intro a0 k
  obtain ⟨ih0, ih1⟩ := sutlerref07_Check.mono_l k
  unfold sutlerref07_Check.f
  repeat' first
      | (with_reducible exact ih0 _ _)
      | (with_reducible exact ih1 _ _)
      | (with_reducible exact LeO.refl _)
      | (with_reducible exact LeO.none _)
      | (with_reducible refine LeO.ite ?_ ?_)
      | (with_reducible refine LeO.bind ?_ (fun _ => ?_))
      | exact ih0 _ _
      | exact ih1 _ _
      | exact LeO.none _
      | refine LeO.ite ?_ ?_
      | refine LeO.bind ?_ (fun _ => ?_)
set_option maxHeartbeats 8000000 in
set_option maxRecDepth 100000 in
theorem sutlerref07_Check.calls (k : Nat) (a0 : ByteArray) (r : Int) (w : World) (h : sutlerref07_Check.f k a0 = some r) :
    Calls Try.prog 24 #[.string a0] w fun e w' => e = .returned (.int .i64 r) ∧ Drawn0 w w' := by
  have H : (if a0.toList = ([] : List UInt8) then (sutlerref07_Check.j0 k a0 true) else (if (a0.size : Int) > 32 then (sutlerref07_Check.j0 k a0 true) else (if a0.toList = ([46] : List UInt8) then (sutlerref07_Check.j0 k a0 true) else (sutlerref07_Check.j0 k a0 (a0.toList == ([46, 46] : List UInt8)))))) = some r := h
  clear h
  have HC2 := Aside0.mk H
  clear H
  go_enter Try.func24, Try.ntmps24
  go_upto_region 1 with (fail)
  go_cut [18] (fun v18 wc => ∃ (kq : Nat) (x18_1 : Bool), v18 = .bool x18_1 ∧ Aside0 (sutlerref07_Check.j0 kq a0 x18_1 = some r) ∧ Aside0 (kq ≤ k) ∧ Drawn0 w wc)
  case first =>
    have H := HC2.out
    clear HC2
    by_cases c3 : a0.toList = ([] : List UInt8)
    · rw [if_pos c3] at H
      have c3b0 : (a0.toList == ([] : List UInt8)) = true := beq_iff_eq.mpr c3
      have c3b1 : (a0.toList != ([] : List UInt8)) = false := bne_eq_false_iff_eq.mpr c3
      clear c3
      (first | rw [c3b0] | (simp only [i64_w, i32_w]; rw [c3b0]) | skip)
      have H' := Aside0.mk H
      clear H
      go_wp2
      go_meet
      case rel => exact ⟨_, (true), (by first | rfl | (simp; done) | (simp [*]; done)), H', ⟨by first | omega | exact Nat.le_refl _⟩, by repeat (first | exact Drawn0.refl _ | apply Drawn0.step)⟩
    · rw [if_neg c3] at H
      have c3b0 : (a0.toList == ([] : List UInt8)) = false := beq_eq_false_iff_ne.mpr c3
      have c3b1 : (a0.toList != ([] : List UInt8)) = true := bne_iff_ne.mpr c3
      (first | rw [c3b0] | (simp only [i64_w, i32_w]; rw [c3b0]) | skip)
      by_cases c4 : (a0.size : Int) > 32
      · rw [if_pos c4] at H
        have c4b0 : decide (32 < (a0.size : Int)) = true := decide_eq_true c4
        have c4b1 : decide (32 < a0.size) = true := decide_eq_true (by omega)
        clear c4
        have H' := Aside0.mk H
        clear H
        go_wp2
        go_meet
        case rel => exact ⟨_, (true), (by first | rfl | (simp; done) | (simp [*]; done)), H', ⟨by first | omega | exact Nat.le_refl _⟩, by repeat (first | exact Drawn0.refl _ | apply Drawn0.step)⟩
      · rw [if_neg c4] at H
        have c4b0 : decide (32 < (a0.size : Int)) = false := decide_eq_false c4
        have c4b1 : decide (32 < a0.size) = false := decide_eq_false (by omega)
        clear c4
        by_cases c5 : a0.toList = ([46] : List UInt8)
        · rw [if_pos c5] at H
          have c5b0 : (a0.toList == ([46] : List UInt8)) = true := beq_iff_eq.mpr c5
          have c5b1 : (a0.toList != ([46] : List UInt8)) = false := bne_eq_false_iff_eq.mpr c5
          clear c5
          have H' := Aside0.mk H
          clear H
          go_wp2
          go_meet
          case rel => exact ⟨_, (true), (by first | rfl | (simp; done) | (simp [*]; done)), H', ⟨by first | omega | exact Nat.le_refl _⟩, by repeat (first | exact Drawn0.refl _ | apply Drawn0.step)⟩
        · rw [if_neg c5] at H
          have c5b0 : (a0.toList == ([46] : List UInt8)) = false := beq_eq_false_iff_ne.mpr c5
          have c5b1 : (a0.toList != ([46] : List UInt8)) = true := bne_iff_ne.mpr c5
          have H' := Aside0.mk H
          clear H
          go_wp2
          go_meet
          case rel => exact ⟨_, ((a0.toList == ([46, 46] : List UInt8))), (by first | rfl | (simp; done) | (simp [*]; done)), H', ⟨by first | omega | exact Nat.le_refl _⟩, by repeat (first | exact Drawn0.refl _ | apply Drawn0.step)⟩
  case rest =>
    clear HC2
    try clear c2
    try clear p2
    try clear c3
    try clear c3b0
    try clear c3b1
    try clear c4
    try clear c4b0
    try clear c4b1
    try clear c5
    try clear c5b0
    try clear c5b1
    obtain ⟨kq, x18_1, rfl, HA, HJ1, ⟨mc1, rfl⟩⟩ := hcut
    cases kq with
    | zero => exact absurd HA.out (by simp [sutlerref07_Check.j0])
    | succ kj1 =>
      have H := HA.out
      clear HA
      simp only [sutlerref07_Check.j0] at H
      by_cases c6 : x18_1 = true
      · subst c6
        have H1 : (some 71) = some r := by rw [if_pos rfl] at H; exact H
        clear H
        have H := H1
        clear H1
        obtain rfl := Option.some.inj H
        go_wp2
        go_ret
        exact ⟨by first | rfl | (simp; done) | (simp [*]; done), by repeat (first | exact Drawn0.refl _ | apply Drawn0.step)⟩
      · replace c6 := Bool.eq_false_iff.mpr c6
        subst c6
        have H1 : (sutlerref07_Check.l0 kj1 a0 0) = some r := by rw [if_neg (show ¬ (false = true) by decide)] at H; exact H
        clear H
        have H := H1
        clear H1
        have H' := Aside0.mk H
        clear H
        go_wp2
        go_loopg [3] kj1 (fun kq v3 w' => ∃ (x3_2 : Int), v3 = .int .i64 x3_2 ∧ Aside0 (sutlerref07_Check.l0 kq a0 x3_2 = some r) ∧ Aside0 (kq ≤ kj1) ∧ Drawn0 w w')
        case atStart => exact ⟨(0), (by first | rfl | (simp; done) | (simp [*]; done)), H', ⟨Nat.le_refl _⟩, by repeat (first | exact Drawn0.refl _ | apply Drawn0.step)⟩
        case round =>
          clear H'
          try clear c1
          try clear c2
          try clear p2
          try clear c3
          try clear c3b0
          try clear c3b1
          try clear c4
          try clear c4b0
          try clear c4b1
          try clear c5
          try clear c5b0
          try clear c5b1
          try clear c6
          try clear p2
          obtain ⟨x3_2, rfl, HA, HK2, ⟨m2, rfl⟩⟩ := hrel
          cases gk with
          | zero => exact absurd HA.out (by simp [sutlerref07_Check.l0])
          | succ k2 =>
            have H := HA.out
            clear HA
            simp only [sutlerref07_Check.l0] at H
            by_cases c7 : x3_2 < (a0.size : Int)
            · rw [if_pos c7] at H
              have c7b0 : decide (x3_2 < (a0.size : Int)) = true := decide_eq_true c7
              clear c7
              by_cases c8 : 0 ≤ x3_2
              · rw [if_pos c8] at H
                have c8b0 : decide (0 ≤ x3_2) = true := decide_eq_true c8
                clear c8
                by_cases c10 : (bt a0 x3_2) < 33
                · rw [if_pos c10] at H
                  have c10b0 : decide ((bt a0 x3_2) < 33) = true := decide_eq_true c10
                  clear c10
                  obtain rfl := Option.some.inj H
                  have p9 : 0 ≤ (x3_2 : Int) := of_decide_eq_true (by first | (with_reducible assumption) | assumption)
                  have q9 : x3_2 < (a0.size : Int) := of_decide_eq_true (by first | (with_reducible assumption) | assumption)
                  have hx9 := bt_at a0 x3_2
                  replace p9 := eq_true p9
                  replace q9 := eq_true q9
                  go_wp2
                  go_ret
                  exact ⟨by first | rfl | (simp; done) | (simp [*]; done), by repeat (first | exact Drawn0.refl _ | apply Drawn0.step)⟩
                · rw [if_neg c10] at H
                  have c10b0 : decide ((bt a0 x3_2) < 33) = false := decide_eq_false c10
                  clear c10
                  by_cases c12 : (bt a0 x3_2) > 126
                  · rw [if_pos c12] at H
                    have c12b0 : decide (126 < (bt a0 x3_2)) = true := decide_eq_true c12
                    clear c12
                    obtain rfl := Option.some.inj H
                    have p9 : 0 ≤ (x3_2 : Int) := of_decide_eq_true (by first | (with_reducible assumption) | assumption)
                    have q9 : x3_2 < (a0.size : Int) := of_decide_eq_true (by first | (with_reducible assumption) | assumption)
                    have hx9 := bt_at a0 x3_2
                    replace p9 := eq_true p9
                    replace q9 := eq_true q9
                    have p11 : 0 ≤ (x3_2 : Int) := of_decide_eq_true (by first | (with_reducible assumption) | assumption)
                    have q11 : x3_2 < (a0.size : Int) := of_decide_eq_true (by first | (with_reducible assumption) | assumption)
                    have hx11 := bt_at a0 x3_2
                    replace p11 := eq_true p11
                    replace q11 := eq_true q11
                    go_wp2
                    go_ret
                    exact ⟨by first | rfl | (simp; done) | (simp [*]; done), by repeat (first | exact Drawn0.refl _ | apply Drawn0.step)⟩
                  · rw [if_neg c12] at H
                    have c12b0 : decide (126 < (bt a0 x3_2)) = false := decide_eq_false c12
                    clear c12
                    by_cases c14 : (bt a0 x3_2) = 47
                    · rw [if_pos c14] at H
                      have c14b0 : ((bt a0 x3_2) == 47) = true := beq_iff_eq.mpr c14
                      have c14b1 : ((bt a0 x3_2) != 47) = false := bne_eq_false_iff_eq.mpr c14
                      clear c14
                      obtain rfl := Option.some.inj H
                      have p9 : 0 ≤ (x3_2 : Int) := of_decide_eq_true (by first | (with_reducible assumption) | assumption)
                      have q9 : x3_2 < (a0.size : Int) := of_decide_eq_true (by first | (with_reducible assumption) | assumption)
                      have hx9 := bt_at a0 x3_2
                      replace p9 := eq_true p9
                      replace q9 := eq_true q9
                      have p11 : 0 ≤ (x3_2 : Int) := of_decide_eq_true (by first | (with_reducible assumption) | assumption)
                      have q11 : x3_2 < (a0.size : Int) := of_decide_eq_true (by first | (with_reducible assumption) | assumption)
                      have hx11 := bt_at a0 x3_2
                      replace p11 := eq_true p11
                      replace q11 := eq_true q11
                      have p13 : 0 ≤ (x3_2 : Int) := of_decide_eq_true (by first | (with_reducible assumption) | assumption)
                      have q13 : x3_2 < (a0.size : Int) := of_decide_eq_true (by first | (with_reducible assumption) | assumption)
                      have hx13 := bt_at a0 x3_2
                      replace p13 := eq_true p13
                      replace q13 := eq_true q13
                      go_wp2
                      go_ret
                      exact ⟨by first | rfl | (simp; done) | (simp [*]; done), by repeat (first | exact Drawn0.refl _ | apply Drawn0.step)⟩
                    · rw [if_neg c14] at H
                      have c14b0 : ((bt a0 x3_2) == 47) = false := beq_eq_false_iff_ne.mpr c14
                      have c14b1 : ((bt a0 x3_2) != 47) = true := bne_iff_ne.mpr c14
                      have H' := Aside0.mk H
                      clear H
                      have p9 : 0 ≤ (x3_2 : Int) := of_decide_eq_true (by first | (with_reducible assumption) | assumption)
                      have q9 : x3_2 < (a0.size : Int) := of_decide_eq_true (by first | (with_reducible assumption) | assumption)
                      have hx9 := bt_at a0 x3_2
                      replace p9 := eq_true p9
                      replace q9 := eq_true q9
                      have p11 : 0 ≤ (x3_2 : Int) := of_decide_eq_true (by first | (with_reducible assumption) | assumption)
                      have q11 : x3_2 < (a0.size : Int) := of_decide_eq_true (by first | (with_reducible assumption) | assumption)
                      have hx11 := bt_at a0 x3_2
                      replace p11 := eq_true p11
                      replace q11 := eq_true q11
                      have p13 : 0 ≤ (x3_2 : Int) := of_decide_eq_true (by first | (with_reducible assumption) | assumption)
                      have q13 : x3_2 < (a0.size : Int) := of_decide_eq_true (by first | (with_reducible assumption) | assumption)
                      have hx13 := bt_at a0 x3_2
                      replace p13 := eq_true p13
                      replace q13 := eq_true q13
                      go_wp2
                      go_roundg k2
                      case measure => have := HJ1.out; have := HK2.out; omega
                      case rel => exact ⟨(wrap64 (x3_2 + 1)), (by first | rfl | (simp; done) | (simp [*]; done)), H', ⟨by have := HJ1.out; have := HK2.out; omega⟩, by repeat (first | exact Drawn0.refl _ | apply Drawn0.step)⟩
              · rw [if_neg c8] at H
                exact absurd H (by simp)
            · rw [if_neg c7] at H
              have c7b0 : decide (x3_2 < (a0.size : Int)) = false := decide_eq_false c7
              clear c7
              obtain rfl := Option.some.inj H
              go_wp2
              go_ret
              exact ⟨by first | rfl | (simp; done) | (simp [*]; done), by repeat (first | exact Drawn0.refl _ | apply Drawn0.step)⟩

end Go.Proofs.Ytcklpecjcebekaa.PAll
end
section
-- Written by a tool of the kit (print.py) over the laws of this seat at once; Lean checks it.
namespace Go.Proofs.Ytcklpecjcebekaa.PAll
open Go.RowKit Go.Proofs.YtcklpecjcebekaaW.PrintWords Go.Proofs.YtcklpecjcebekaaW.PrintLast Go.Proofs.YtcklpecjcebekaaW.PrintMore
attribute [local go_sem] max2_int min2_int max_two min_two max_three min_three max_four min_four   -- for this text's walks alone
set_option linter.unusedVariables false
set_option linter.unusedSimpArgs false

/-! ### sutlerref07_Look: function 14 -/
def sutlerref07_Look.l0 : Nat → List (S37) → ByteArray → Int → Option (Int × Int)
  | 0, _, _, _ => none
  | k + 1, x0, x1, x7 => if x7 < (x0.length : Int) then (if 0 ≤ x7 then (if ((rd_T37 x0 x7).f0).toList = x1.toList then (some ((rd_T37 x0 x7).f1, 0)) else (sutlerref07_Look.l0 k x0 x1 (wrap64 (x7 + 1)))) else (none)) else (some (0, 5))
def sutlerref07_Look.f (k : Nat) (l0 : List (S37)) (a1 : ByteArray) : Option (Int × Int) := (sutlerref07_Check.f k a1).bind fun t178 => (if t178 = 0 then (sutlerref07_Look.l0 k l0 a1 0) else (some (0, t178)))
theorem sutlerref07_Look.mono_l : ∀ k, (∀ y0 y1 y2, LeO (sutlerref07_Look.l0 k y0 y1 y2) (sutlerref07_Look.l0 (k + 1) y0 y1 y2))
  | 0 => fun _ _ _ r h => by simp [sutlerref07_Look.l0] at h
  | k + 1 => by
    have ih0 := sutlerref07_Look.mono_l k
    · intro y0 y1 y2
      unfold sutlerref07_Look.l0
      repeat' first
      | (with_reducible exact ih0 _ _ _)
      | (with_reducible exact sutlerref07_Check.mono _ _)
      | (with_reducible exact LeO.refl _)
      | (with_reducible exact LeO.none _)
      | (with_reducible refine LeO.ite ?_ ?_)
      | (with_reducible refine LeO.bind ?_ (fun _ => ?_))
      | exact ih0 _ _ _
      | exact sutlerref07_Check.mono _ _
      | exact LeO.none _
      | refine LeO.ite ?_ ?_
      | refine LeO.bind ?_ (fun _ => ?_)
theorem sutlerref07_Look.mono : ∀ a0 a1 k, LeO (sutlerref07_Look.f k a0 a1) (sutlerref07_Look.f (k + 1) a0 a1) := by
  intro a0 a1 k
  have ih0 := sutlerref07_Look.mono_l k
  unfold sutlerref07_Look.f
  repeat' first
      | (with_reducible exact ih0 _ _ _)
      | (with_reducible exact sutlerref07_Check.mono _ _)
      | (with_reducible exact LeO.refl _)
      | (with_reducible exact LeO.none _)
      | (with_reducible refine LeO.ite ?_ ?_)
      | (with_reducible refine LeO.bind ?_ (fun _ => ?_))
      | exact ih0 _ _ _
      | exact sutlerref07_Check.mono _ _
      | exact LeO.none _
      | refine LeO.ite ?_ ?_
      | refine LeO.bind ?_ (fun _ => ?_)
set_option maxHeartbeats 8000000 in
set_option maxRecDepth 100000 in
theorem sutlerref07_Look.calls (k : Nat) (A0 : Option Addr) (c0 : Nat) (l0 : List (S37)) (a1 : ByteArray) (r1 : Int) (r2 : Int) (w : World) (hr0 : Kd.C k37 w A0 l0.length l0) (hc0 : l0.length ≤ c0) (h : sutlerref07_Look.f k l0 a1 = some (r1, r2)) :
    Calls Try.prog 14 #[.slice A0 l0.length c0, .string a1] w fun e w' => e = .returned (.tuple #[.int .i64 r1, .int .i64 r2]) ∧ Drawn0 w w' := by
  have HR0 := Aside0.mk hr0
  have HC0 := Aside0.mk hc0
  clear hr0 hc0
  have H : ((sutlerref07_Check.f k a1).bind fun t178 => (if t178 = 0 then (sutlerref07_Look.l0 k l0 a1 0) else (some (0, t178)))) = some (r1, r2) := h
  clear h
  replace H := Option.bind_eq_some_iff.mp H
  obtain ⟨t178, A30, H⟩ := H
  replace H : (if t178 = 0 then (sutlerref07_Look.l0 k l0 a1 0) else (some (0, t178))) = some (r1, r2) := H
  have A3 := Aside0.mk A30
  clear A30
  by_cases c4 : t178 = 0
  · rw [if_pos c4] at H
    have c4b0 : (t178 == 0) = true := beq_iff_eq.mpr c4
    have c4b1 : (t178 != 0) = false := bne_eq_false_iff_eq.mpr c4
    clear c4
    have H' := Aside0.mk H
    clear H
    go_enter Try.func14, Try.ntmps14
    go_wp2_with (first | ((with_reducible refine gate_callee (f := 24) rfl ?_); refine goesL_ (some 9) rfl rfl Try.func24 (by kernel_rfl) rfl #[.string a1] rfl (by (try simp only [List.map_toArray, List.map_cons, List.map_nil]); first | done | rfl | (simp only [List.length_drop, List.length_take]; rfl)) ?_; (with_reducible refine (sutlerref07_Check.calls k a1 t178 _ A3.out).mono ?_); rintro e w' ⟨rfl, ⟨nd, rfl⟩⟩; refine ⟨_, rfl, ?_⟩))
    go_loopg [7] k (fun kq v7 w' => ∃ (x7_1 : Int), v7 = .int .i64 x7_1 ∧ Aside0 (sutlerref07_Look.l0 kq l0 a1 x7_1 = some (r1, r2)) ∧ Aside0 (kq ≤ k) ∧ Drawn0 w w')
    case atStart => exact ⟨(0), (by first | rfl | (simp; done) | (simp [*]; done)), H', ⟨Nat.le_refl _⟩, by repeat (first | exact Drawn0.refl _ | apply Drawn0.step)⟩
    case round =>
      clear H'
      try clear c1
      try clear c2
      try clear p2
      try clear c4
      try clear c4b0
      try clear c4b1
      obtain ⟨x7_1, rfl, HA, HK1, ⟨m1, rfl⟩⟩ := hrel
      cases gk with
      | zero => exact absurd HA.out (by simp [sutlerref07_Look.l0])
      | succ k1 =>
        have H := HA.out
        clear HA
        simp only [sutlerref07_Look.l0] at H
        by_cases c5 : x7_1 < (l0.length : Int)
        · rw [if_pos c5] at H
          have c5b0 : decide (x7_1 < (l0.length : Int)) = true := decide_eq_true c5
          clear c5
          by_cases c6 : 0 ≤ x7_1
          · rw [if_pos c6] at H
            have c6b0 : decide (0 ≤ x7_1) = true := decide_eq_true c6
            clear c6
            by_cases c7 : ((rd_T37 l0 x7_1).f0).toList = a1.toList
            · rw [if_pos c7] at H
              have c7b0 : (((rd_T37 l0 x7_1).f0).toList == a1.toList) = true := beq_iff_eq.mpr c7
              have c7b1 : (((rd_T37 l0 x7_1).f0).toList != a1.toList) = false := bne_eq_false_iff_eq.mpr c7
              clear c7
              simp only [Option.some.injEq, Prod.mk.injEq] at H
              obtain ⟨rfl, rfl⟩ := H
              have p179 : 0 ≤ (x7_1 : Int) := of_decide_eq_true (by first | (with_reducible assumption) | assumption)
              have q179 : x7_1 < (l0.length : Int) := of_decide_eq_true (by first | (with_reducible assumption) | assumption)
              obtain ⟨ad179, e179, hx179_0, hx179_1⟩ := at_T37 HR0.out x7_1 p179 q179
              cases e179
              replace p179 := eq_true p179
              replace q179 := eq_true q179
              have p180 : 0 ≤ (x7_1 : Int) := of_decide_eq_true (by first | (with_reducible assumption) | assumption)
              have q180 : x7_1 < (l0.length : Int) := of_decide_eq_true (by first | (with_reducible assumption) | assumption)
              obtain ⟨ad180, e180, hx180_0, hx180_1⟩ := at_T37 HR0.out x7_1 p180 q180
              obtain rfl : ad179 = ad180 := (by injection e180)
              replace p180 := eq_true p180
              replace q180 := eq_true q180
              go_wp2
              go_ret2
              exact ⟨by first | rfl | (simp; done) | (simp [*]; done), by repeat (first | exact Drawn0.refl _ | apply Drawn0.step)⟩
            · rw [if_neg c7] at H
              have c7b0 : (((rd_T37 l0 x7_1).f0).toList == a1.toList) = false := beq_eq_false_iff_ne.mpr c7
              have c7b1 : (((rd_T37 l0 x7_1).f0).toList != a1.toList) = true := bne_iff_ne.mpr c7
              have H' := Aside0.mk H
              clear H
              have p179 : 0 ≤ (x7_1 : Int) := of_decide_eq_true (by first | (with_reducible assumption) | assumption)
              have q179 : x7_1 < (l0.length : Int) := of_decide_eq_true (by first | (with_reducible assumption) | assumption)
              obtain ⟨ad179, e179, hx179_0, hx179_1⟩ := at_T37 HR0.out x7_1 p179 q179
              cases e179
              replace p179 := eq_true p179
              replace q179 := eq_true q179
              go_wp2
              go_roundg k1
              case measure => have := HK1.out; omega
              case rel => exact ⟨(wrap64 (x7_1 + 1)), (by first | rfl | (simp; done) | (simp [*]; done)), H', ⟨by have := HK1.out; omega⟩, by repeat (first | exact Drawn0.refl _ | apply Drawn0.step)⟩
          · rw [if_neg c6] at H
            exact absurd H (by simp)
        · rw [if_neg c5] at H
          have c5b0 : decide (x7_1 < (l0.length : Int)) = false := decide_eq_false c5
          clear c5
          simp only [Option.some.injEq, Prod.mk.injEq] at H
          obtain ⟨rfl, rfl⟩ := H
          go_wp2
          go_ret2
          exact ⟨by first | rfl | (simp; done) | (simp [*]; done), by repeat (first | exact Drawn0.refl _ | apply Drawn0.step)⟩
  · rw [if_neg c4] at H
    have c4b0 : (t178 == 0) = false := beq_eq_false_iff_ne.mpr c4
    have c4b1 : (t178 != 0) = true := bne_iff_ne.mpr c4
    simp only [Option.some.injEq, Prod.mk.injEq] at H
    obtain ⟨rfl, rfl⟩ := H
    go_enter Try.func14, Try.ntmps14
    go_wp2_with (first | ((with_reducible refine gate_callee (f := 24) rfl ?_); refine goesL_ (some 9) rfl rfl Try.func24 (by kernel_rfl) rfl #[.string a1] rfl (by (try simp only [List.map_toArray, List.map_cons, List.map_nil]); first | done | rfl | (simp only [List.length_drop, List.length_take]; rfl)) ?_; (with_reducible refine (sutlerref07_Check.calls k a1 t178 _ A3.out).mono ?_); rintro e w' ⟨rfl, ⟨nd, rfl⟩⟩; refine ⟨_, rfl, ?_⟩))
    go_ret2
    exact ⟨by first | rfl | (simp; done) | (simp [*]; done), by repeat (first | exact Drawn0.refl _ | apply Drawn0.step)⟩

end Go.Proofs.Ytcklpecjcebekaa.PAll
end
section
-- Written by a tool of the kit (print.py) over the laws of this seat at once; Lean checks it.
namespace Go.Proofs.Ytcklpecjcebekaa.PAll
open Go.RowKit Go.Proofs.YtcklpecjcebekaaW.PrintWords Go.Proofs.YtcklpecjcebekaaW.PrintLast Go.Proofs.YtcklpecjcebekaaW.PrintMore
attribute [local go_sem] max2_int min2_int max_two min_two max_three min_three max_four min_four   -- for this text's walks alone
set_option linter.unusedVariables false
set_option linter.unusedSimpArgs false

/-! ### dirs_Look: function 13 -/
def dirs_Look.f (l0 : List (S37)) (a1 : ByteArray) : Option (Int × Int) := (dirs_place.f l0 a1).bind fun bt175 => (if bt175.2 = 0 then (if 0 ≤ bt175.1 then (if bt175.1 < (l0.length : Int) then (some ((rd_T37 l0 bt175.1).f1, bt175.2)) else (none)) else (none)) else (some (0, bt175.2)))
set_option maxHeartbeats 8000000 in
set_option maxRecDepth 100000 in
theorem dirs_Look.calls (A0 : Option Addr) (c0 : Nat) (l0 : List (S37)) (a1 : ByteArray) (r1 : Int) (r2 : Int) (w : World) (hr0 : Kd.C k37 w A0 l0.length l0) (hc0 : l0.length ≤ c0) (h : dirs_Look.f l0 a1 = some (r1, r2)) :
    Calls Try.prog 13 #[.slice A0 l0.length c0, .string a1] w fun e w' => e = .returned (.tuple #[.int .i64 r1, .int .i64 r2]) ∧ Below w.heap.size w w' := by
  have HR0 := Aside0.mk hr0
  have HC0 := Aside0.mk hc0
  clear hr0 hc0
  have HB := Aside0.mk (Below.refl w.heap.size w)
  have H : ((dirs_place.f l0 a1).bind fun bt175 => (if bt175.2 = 0 then (if 0 ≤ bt175.1 then (if bt175.1 < (l0.length : Int) then (some ((rd_T37 l0 bt175.1).f1, bt175.2)) else (none)) else (none)) else (some (0, bt175.2)))) = some (r1, r2) := h
  clear h
  replace H := Option.bind_eq_some_iff.mp H
  obtain ⟨⟨t175, t176⟩, A30, H⟩ := H
  replace H : (if t176 = 0 then (if 0 ≤ t175 then (if t175 < (l0.length : Int) then (some ((rd_T37 l0 t175).f1, t176)) else (none)) else (none)) else (some (0, t176))) = some (r1, r2) := H
  have A3 := Aside0.mk A30
  clear A30
  by_cases c4 : t176 = 0
  · rw [if_pos c4] at H
    have c4b0 : (t176 == 0) = true := beq_iff_eq.mpr c4
    have c4b1 : (t176 != 0) = false := bne_eq_false_iff_eq.mpr c4
    clear c4
    by_cases c5 : 0 ≤ t175
    · rw [if_pos c5] at H
      have c5b0 : decide (0 ≤ t175) = true := decide_eq_true c5
      clear c5
      by_cases c6 : t175 < (l0.length : Int)
      · rw [if_pos c6] at H
        have c6b0 : decide (t175 < (l0.length : Int)) = true := decide_eq_true c6
        clear c6
        simp only [Option.some.injEq, Prod.mk.injEq] at H
        obtain ⟨rfl, rfl⟩ := H
        go_enter Try.func13, Try.ntmps13
        go_wp2_with (first | ((with_reducible refine gate_callee (f := 26) rfl ?_); refine goesL_ (some 11) rfl rfl Try.func26 (by kernel_rfl) rfl #[.slice A0 l0.length c0, .string a1] rfl (by (try simp only [List.map_toArray, List.map_cons, List.map_nil]); first | done | rfl | (simp only [List.length_drop, List.length_take]; rfl)) ?_; (with_reducible refine (dirs_place.calls _ _ l0 a1 t175 t176 _ ?side1 ?side2 A3.out).mono ?_); (case side1 => repeat (first | exact HR0.out | (with_reducible refine Kd.C_alloc ?_ _) | (with_reducible refine Kd.C_drewN ?_ _) | (with_reducible refine Kd.C_drew ?_))); (case side2 => exact HC0.out); rintro e w7 ⟨rfl, hb⟩; refine ⟨_, rfl, ?_⟩; have n0_ := Aside0.mk (below_step (by repeat (first | (with_reducible first | exact HB.out | apply below_alloc | apply pw_below_drewN | apply below_drew1) | exact HB.out)) hb); clear HB; have HB := n0_; clear n0_; (try clear hb); (try clear hb2); (try clear hk); (try clear hi); have p177 : 0 ≤ (t175 : Int) := of_decide_eq_true (by first | (with_reducible assumption) | assumption); have q177 : t175 < (l0.length : Int) := of_decide_eq_true (by first | (with_reducible assumption) | assumption); obtain ⟨ad177, e177, hx177_0, hx177_1⟩ := at_T37 HR0.out t175 p177 q177; cases e177; replace hx177_0 := (HB.out.cell (World.block_lt_of_cell? w _ hx177_0)).trans hx177_0; replace hx177_1 := (HB.out.cell (World.block_lt_of_cell? w _ hx177_1)).trans hx177_1; replace p177 := eq_true p177; replace q177 := eq_true q177))
        go_ret2
        exact ⟨by first | rfl | (simp [errW_none, errW_some] <;> rfl) | (simp [*, errW_none, errW_some] <;> rfl), by repeat (first | (with_reducible first | exact HB.out | apply below_alloc | apply pw_below_drewN | apply below_drew1) | exact HB.out)⟩
      · rw [if_neg c6] at H
        exact absurd H (by simp)
    · rw [if_neg c5] at H
      exact absurd H (by simp)
  · rw [if_neg c4] at H
    have c4b0 : (t176 == 0) = false := beq_eq_false_iff_ne.mpr c4
    have c4b1 : (t176 != 0) = true := bne_iff_ne.mpr c4
    simp only [Option.some.injEq, Prod.mk.injEq] at H
    obtain ⟨rfl, rfl⟩ := H
    go_enter Try.func13, Try.ntmps13
    go_wp2_with (first | ((with_reducible refine gate_callee (f := 26) rfl ?_); refine goesL_ (some 11) rfl rfl Try.func26 (by kernel_rfl) rfl #[.slice A0 l0.length c0, .string a1] rfl (by (try simp only [List.map_toArray, List.map_cons, List.map_nil]); first | done | rfl | (simp only [List.length_drop, List.length_take]; rfl)) ?_; (with_reducible refine (dirs_place.calls _ _ l0 a1 t175 t176 _ ?side1 ?side2 A3.out).mono ?_); (case side1 => repeat (first | exact HR0.out | (with_reducible refine Kd.C_alloc ?_ _) | (with_reducible refine Kd.C_drewN ?_ _) | (with_reducible refine Kd.C_drew ?_))); (case side2 => exact HC0.out); rintro e w8 ⟨rfl, hb⟩; refine ⟨_, rfl, ?_⟩; have n0_ := Aside0.mk (below_step (by repeat (first | (with_reducible first | exact HB.out | apply below_alloc | apply pw_below_drewN | apply below_drew1) | exact HB.out)) hb); clear HB; have HB := n0_; clear n0_; (try clear hb); (try clear hb2); (try clear hk); (try clear hi)))
    go_ret2
    exact ⟨by first | rfl | (simp [errW_none, errW_some] <;> rfl) | (simp [*, errW_none, errW_some] <;> rfl), by repeat (first | (with_reducible first | exact HB.out | apply below_alloc | apply pw_below_drewN | apply below_drew1) | exact HB.out)⟩

end Go.Proofs.Ytcklpecjcebekaa.PAll
end
section
-- Written by a tool of the kit (print.py) over the laws of this seat at once; Lean checks it.
namespace Go.Proofs.Ytcklpecjcebekaa.PAll
open Go.RowKit Go.Proofs.YtcklpecjcebekaaW.PrintWords Go.Proofs.YtcklpecjcebekaaW.PrintLast Go.Proofs.YtcklpecjcebekaaW.PrintMore
attribute [local go_sem] max2_int min2_int max_two min_two max_three min_three max_four min_four   -- for this text's walks alone
set_option linter.unusedVariables false
set_option linter.unusedSimpArgs false

/-! ### sutlerref07_inode: function 33 -/
def sutlerref07_inode.f (a0 : Int) : Option (Bool) := if a0 ≥ 0 then (some (decide (a0 ≤ 65535))) else (some false)
set_option maxHeartbeats 8000000 in
set_option maxRecDepth 100000 in
theorem sutlerref07_inode.calls (a0 : Int) (r : Bool) (w : World) (h : sutlerref07_inode.f a0 = some r) :
    Calls Try.prog 33 #[.int .i64 a0] w fun e w' => e = .returned (.bool r) ∧ Drawn0 w w' := by
  have H : (if a0 ≥ 0 then (some (decide (a0 ≤ 65535))) else (some false)) = some r := h
  clear h
  by_cases c2 : a0 ≥ 0
  · rw [if_pos c2] at H
    have c2b0 : decide (0 ≤ a0) = true := decide_eq_true c2
    clear c2
    obtain rfl := Option.some.inj H
    go_enter Try.func33, Try.ntmps33
    go_wp2
    go_ret
    exact ⟨by first | rfl | (simp; done) | (simp [*]; done), by repeat (first | exact Drawn0.refl _ | apply Drawn0.step)⟩
  · rw [if_neg c2] at H
    have c2b0 : decide (0 ≤ a0) = false := decide_eq_false c2
    clear c2
    obtain rfl := Option.some.inj H
    go_enter Try.func33, Try.ntmps33
    go_wp2
    go_ret
    exact ⟨by first | rfl | (simp; done) | (simp [*]; done), by repeat (first | exact Drawn0.refl _ | apply Drawn0.step)⟩

end Go.Proofs.Ytcklpecjcebekaa.PAll
end
