/- Texts of this claim, one behind the other: Heap. -/
import Derived.Below
import Derived.Maps.AppendAt
import Derived.Laws.NewBlocks
import Derived.Test.YtbikimkmkchkhaaGreatDoorWWords
import Derived.Test.YtbikimkmkchkhaaGreatDoorWMore
section
/- Blocks of the heap: what a new block, a store, an append do to them. -/
namespace Go.Proofs.YtbikimkmkchkhaaGreatDoor
open Go.RowKit

theorem kb_cell_of {w : World} {g : Nat} {cs : Array Value} {t : TypeId} {fr : Nat × Nat} (h : w.heap[g]? = some (.cells cs t fr)) (i : Nat) : w.cell? ⟨g, i, none⟩ = cs[i]? := by simp [World.cell?, h]
theorem kb_free_of {w : World} {g : Nat} {cs : Array Value} {t : TypeId} (h : w.heap[g]? = some (.cells cs t (0, 0))) (i : Nat) : w.frozen? ⟨g, i, none⟩ = false := by simp [World.frozen?, h]
theorem kb_lt_of {w : World} {g : Nat} {o : Obj} (h : w.heap[g]? = some o) : g < w.heap.size := (Array.getElem?_eq_some_iff.1 h).1
theorem kb_new (w : World) (o : Obj) : (w.alloc o).heap[w.heap.size]? = some o := by
  show (w.heap.push o)[w.heap.size]? = some o
  simp
theorem kb_alloc {w : World} {g : Nat} {o : Obj} (h : w.heap[g]? = some o) (p : Obj) : (w.alloc p).heap[g]? = some o := (Below.heap_alloc w p g (kb_lt_of h)).trans h
theorem kb_drewN {w : World} {g : Nat} {o : Obj} (h : w.heap[g]? = some o) (n : Nat) : (w.drewN n).heap[g]? = some o := by
  have : (w.drewN n).heap = w.heap := by
    clear h
    induction n generalizing w with
    | zero => rfl
    | succ n ih => exact ih
  rw [this]; exact h
theorem kb_below {B : Nat} {w W : World} (hb : Below B w W) {g : Nat} {o : Obj} (hg : g < B) (h : w.heap[g]? = some o) : W.heap[g]? = some o := (hb.block g hg).trans h
theorem kb_belows {w W : World} (hb : Below w.heap.size w W) {g : Nat} {o : Obj} (h : w.heap[g]? = some o) : W.heap[g]? = some o := kb_below hb (kb_lt_of h) h
theorem kb_set {w : World} {g : Nat} {cs : Array Value} {t : TypeId} {fr : Nat × Nat} (h : w.heap[g]? = some (.cells cs t fr)) (i : Nat) (v : Value) : (w.setCell ⟨g, i, none⟩ v).heap[g]? = some (.cells (cs.setIfInBounds i v) t fr) := by
  have hl := kb_lt_of h
  simp only [World.setCell, Array.getElem?_modify, if_true, h]
  simp
theorem kb_set_other {w : World} {g b : Nat} {o : Obj} (h : w.heap[g]? = some o) (hne : g ≠ b) (i : Nat) (v : Value) : (w.setCell ⟨b, i, none⟩ v).heap[g]? = some o := (Below.heap_setCell w ⟨b, i, none⟩ v g hne).trans h
theorem kb_grown {w W : World} {row : Option Nat} (hg : w.grownBy W row) {g : Nat} {o : Obj} (h : w.heap[g]? = some o) (hne : some g ≠ row) : W.heap[g]? = some o := (hg.block g (kb_lt_of h) hne).trans h
end Go.Proofs.YtbikimkmkchkhaaGreatDoor
end
