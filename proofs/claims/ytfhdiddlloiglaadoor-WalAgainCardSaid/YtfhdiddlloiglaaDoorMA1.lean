/- Texts of this claim, one behind the other: Sep. -/
import Derived.Below
import Derived.Maps.OwnSet
import Derived.Maps.Range
section
/- Owned blocks: a list of resources that hold in a world, apart from one another; all other blocks stay. No program. -/
namespace Go.Proofs.YtfhdiddlloiglaaDoor
open Go.RowKit
set_option linter.unusedVariables false

abbrev Foot := Nat → Prop
/-- A resource: what holds of a world, given the blocks T that nobody writes, and its own blocks S. -/
structure Res where
  has : World → Foot → Foot → Prop
  lt : ∀ {w T S}, has w T S → ∀ i, S i → i < w.heap.size
  kept : ∀ {w T S w' T'}, has w T S → (∀ i, T i → i < w.heap.size) → (∀ i, S i ∨ T i → w'.heap[i]? = w.heap[i]?) → (∀ i, T i → T' i) → has w' T' S

def Holds (w : World) (T : Foot) : List Res → Foot → Prop
  | [], S => ∀ i, ¬ S i
  | A :: L, S => ∃ S1 S2, A.has w T S1 ∧ Holds w T L S2 ∧ (∀ i, S1 i → ¬ S2 i) ∧ ∀ i, S i ↔ S1 i ∨ S2 i

theorem Holds.lt {w : World} {T : Foot} : ∀ {L : List Res} {S : Foot}, Holds w T L S → ∀ i, S i → i < w.heap.size
  | [], S, h, i, hi => absurd hi (h i)
  | A :: L, S, ⟨S1, S2, h1, h2, _, h4⟩, i, hi => ((h4 i).1 hi).elim (A.lt h1 i) (h2.lt i)
theorem Holds.kept {w w' : World} {T T' : Foot} (ht : ∀ i, T i → i < w.heap.size) : ∀ {L : List Res} {S : Foot}, Holds w T L S → (∀ i, S i ∨ T i → w'.heap[i]? = w.heap[i]?) → (∀ i, T i → T' i) → Holds w' T' L S
  | [], S, h, _, _ => h
  | A :: L, S, ⟨S1, S2, h1, h2, h3, h4⟩, hk, hT =>
    ⟨S1, S2, A.kept h1 ht (fun i hi => hk i (hi.imp_left fun h => (h4 i).2 (.inl h))) hT, h2.kept ht (fun i hi => hk i (hi.imp_left fun h => (h4 i).2 (.inr h))) hT, h3, h4⟩

/-- World w, behind w0: the resources L hold, apart from one another and from all that was there in w0. -/
structure St (w0 w : World) (L : List Res) : Prop where
  ex : ∃ T S, Holds w T L S ∧ (∀ i, T i → i < w.heap.size) ∧ (∀ i, S i → ¬ T i) ∧ (∀ i, i < w0.heap.size → T i)
  below : Below w0.heap.size w0 w

theorem St.start (w : World) : St w w [] := ⟨⟨fun i => i < w.heap.size, fun _ => False, fun _ => id, fun _ h => h, fun _ h => h.elim, fun _ h => h⟩, Below.refl _ _⟩

/-- w' is w but for blocks of S. -/
structure Moved (w w' : World) (S : Foot) : Prop where
  os : w'.os = w.os
  tape : w'.tape = w.tape
  output : w'.output = w.output
  size : w.heap.size ≤ w'.heap.size
  block : ∀ i, i < w.heap.size → ¬ S i → w'.heap[i]? = w.heap[i]?

theorem Moved.refl (w : World) (S : Foot) : Moved w w S := ⟨rfl, rfl, rfl, Nat.le_refl _, fun _ _ _ => rfl⟩
theorem Moved.trans {w w' w'' : World} {S : Foot} (h : Moved w w' S) (k : Moved w' w'' S) : Moved w w'' S :=
  ⟨k.os.trans h.os, k.tape.trans h.tape, k.output.trans h.output, Nat.le_trans h.size k.size, fun i hi hn => (k.block i (Nat.lt_of_lt_of_le hi h.size) hn).trans (h.block i hi hn)⟩
theorem Moved.below {w w' : World} (h : Below w.heap.size w w') (S : Foot) : Moved w w' S := ⟨h.os, h.tape, h.output, h.size, fun i hi _ => h.block i hi⟩
theorem Moved.grown {w w' : World} {row : Option Nat} {S : Foot} (h : w.grownBy w' row) (hr : ∀ k, row = some k → S k) : Moved w w' S :=
  ⟨h.os, h.tape, h.output, h.size, fun i hi hn => h.block i hi fun e => hn (hr i e.symm)⟩
theorem Moved.setCell {w w' : World} {S : Foot} (h : Moved w w' S) {a : Addr} (ha : S a.block) (u : Value) : Moved w (w'.setCell a u) S :=
  h.trans ⟨rfl, rfl, rfl, by simp [World.setCell], fun i _ hn => Below.heap_setCell _ _ _ _ fun e => hn (e ▸ ha)⟩
theorem Moved.alloc {w w' : World} {S : Foot} (h : Moved w w' S) (o : Obj) : Moved w (w'.alloc o) S :=
  h.trans ⟨rfl, rfl, rfl, by simp, fun i hi _ => Below.heap_alloc _ _ _ hi⟩
theorem Moved.drew {w w' : World} {S : Foot} (h : Moved w w' S) : Moved w w'.drew S := h.trans ⟨rfl, rfl, rfl, Nat.le_refl _, fun _ _ _ => rfl⟩

/-- THE RULE: the first resource turns into another one, over its own blocks and new ones. -/
theorem St.upd {w0 w w' : World} {A B : Res} {L : List Res} (H : St w0 w (A :: L))
    (h : ∀ T S, A.has w T S → (∀ i, S i → ¬ T i) → (∀ i, T i → i < w.heap.size) → ∃ T' S', B.has w' T' S' ∧ (∀ i, T i → T' i) ∧ (∀ i, T' i → i < w'.heap.size ∧ (T i ∨ S i ∨ w.heap.size ≤ i)) ∧
      (∀ i, S' i → S i ∨ w.heap.size ≤ i) ∧ (∀ i, S' i → ¬ T' i) ∧ Moved w w' S) : St w0 w' (B :: L) := by
  obtain ⟨⟨T, S, ⟨S1, S2, h1, h2, h3, h4⟩, hT, hS, h0⟩, hb⟩ := H
  obtain ⟨T', S1', k1, k2, k3, k4, k5, m⟩ := h T S1 h1 (fun i hi => hS i ((h4 i).2 (.inl hi))) hT
  have n2 : ∀ i, S2 i → ¬ S1 i := fun i hi hi1 => h3 i hi1 hi
  have l2 := h2.lt
  have t2 : ∀ i, S2 i → ¬ T i := fun i hi => hS i ((h4 i).2 (.inr hi))
  refine ⟨⟨T', fun i => S1' i ∨ S2 i, ⟨S1', S2, k1, h2.kept hT (fun i hi => ?_) k2, fun i hi hi2 => ?_, fun i => Iff.rfl⟩, fun i hi => (k3 i hi).1, fun i hi ht => ?_, fun i hi => k2 i (h0 i hi)⟩, ?_⟩
  · rcases hi with hi | hi
    · exact m.block i (l2 i hi) (n2 i hi)
    · exact m.block i (hT i hi) fun hs => hS i ((h4 i).2 (.inl hs)) hi
  · rcases k4 i hi with hs | hn
    · exact h3 i hs hi2
    · exact absurd (l2 i hi2) (by omega)
  · rcases hi with hi | hi
    · exact k5 i hi ht
    · rcases (k3 i ht).2 with a | a | a
      · exact t2 i hi a
      · exact n2 i hi a
      · exact absurd (l2 i hi) (by omega)
  · exact hb.trans ⟨m.os, m.tape, m.output, m.size, fun i hi => m.block i (hT i (h0 i hi)) fun hs => hS i ((h4 i).2 (.inl hs)) (h0 i hi)⟩

/-- .. with the blocks that nobody writes as they were. -/
theorem St.updS {w0 w w' : World} {A B : Res} {L : List Res} (H : St w0 w (A :: L))
    (h : ∀ T S, A.has w T S → (∀ i, S i → ¬ T i) → (∀ i, T i → i < w.heap.size) → ∃ S', B.has w' T S' ∧ (∀ i, S' i → S i ∨ w.heap.size ≤ i) ∧ Moved w w' S) : St w0 w' (B :: L) :=
  H.upd fun T S ha hS hT => by
    obtain ⟨S', k1, k2, m⟩ := h T S ha hS hT
    refine ⟨T, S', k1, fun _ h => h, fun i hi => ⟨Nat.lt_of_lt_of_le (hT i hi) m.size, .inl hi⟩, k2, fun i hi ht => ?_, m⟩
    rcases k2 i hi with a | a
    · exact hS i a ht
    · exact absurd (hT i ht) (by omega)

/-- What the first resource says. -/
theorem St.fst {w0 w : World} {A : Res} {L : List Res} (H : St w0 w (A :: L)) : ∃ T S, A.has w T S ∧ (∀ i, S i → ¬ T i) ∧ (∀ i, T i → i < w.heap.size) ∧ (∀ i, i < w0.heap.size → T i) := by
  obtain ⟨⟨T, S, ⟨S1, S2, h1, h2, h3, h4⟩, hT, hS, h0⟩, _⟩ := H
  exact ⟨T, S1, h1, fun i hi => hS i ((h4 i).2 (.inl hi)), hT, h0⟩

theorem St.swap {w0 w : World} {A B : Res} {L : List Res} (H : St w0 w (A :: B :: L)) : St w0 w (B :: A :: L) := by
  obtain ⟨⟨T, S, ⟨S1, S2, h1, ⟨S3, S4, h5, h6, h7, h8⟩, h3, h4⟩, hT, hS, h0⟩, hb⟩ := H
  refine ⟨⟨T, S, ⟨S3, fun i => S1 i ∨ S4 i, h5, ⟨S1, S4, h1, h6, fun i hi h => h3 i hi ((h8 i).2 (.inr h)), fun _ => Iff.rfl⟩, fun i hi h => ?_, fun i => ?_⟩, hT, hS, h0⟩, hb⟩
  · rcases h with h | h
    · exact h3 i h ((h8 i).2 (.inl hi))
    · exact h7 i hi h
  · rw [h4, h8]; constructor
    · rintro (h | h | h)
      · exact .inr (.inl h)
      · exact .inl h
      · exact .inr (.inr h)
    · rintro (h | h | h)
      · exact .inr (.inl h)
      · exact .inl h
      · exact .inr (.inr h)
theorem Holds.tail {w : World} {T : Foot} {L M : List Res} (h : ∀ S, Holds w T L S → Holds w T M S) (A : Res) (S : Foot) (H : Holds w T (A :: L) S) : Holds w T (A :: M) S := by
  obtain ⟨S1, S2, h1, h2, h3, h4⟩ := H
  exact ⟨S1, S2, h1, h S2 h2, h3, h4⟩
theorem Holds.swap {w : World} {T : Foot} {A B : Res} {L : List Res} {S : Foot} (H : Holds w T (A :: B :: L) S) : Holds w T (B :: A :: L) S := by
  obtain ⟨S1, S2, h1, ⟨S3, S4, h5, h6, h7, h8⟩, h3, h4⟩ := H
  refine ⟨S3, fun i => S1 i ∨ S4 i, h5, ⟨S1, S4, h1, h6, fun i hi h => h3 i hi ((h8 i).2 (.inr h)), fun _ => Iff.rfl⟩, fun i hi h => ?_, fun i => ?_⟩
  · rcases h with h | h
    · exact h3 i h ((h8 i).2 (.inl hi))
    · exact h7 i hi h
  · rw [h4, h8]; constructor
    · rintro (h | h | h)
      · exact .inr (.inl h)
      · exact .inl h
      · exact .inr (.inr h)
    · rintro (h | h | h)
      · exact .inr (.inl h)
      · exact .inl h
      · exact .inr (.inr h)
theorem Holds.perm {w : World} {T : Foot} {L M : List Res} (p : L.Perm M) : ∀ S, Holds w T L S → Holds w T M S := by
  induction p with
  | nil => exact fun _ h => h
  | cons A _ ih => exact Holds.tail ih A
  | swap A B L => exact fun _ h => h.swap
  | trans _ _ i1 i2 => exact fun S h => i2 S (i1 S h)
theorem St.perm {w0 w : World} {L M : List Res} (H : St w0 w L) (p : L.Perm M) : St w0 w M := by
  obtain ⟨⟨T, S, h, hT, hS, h0⟩, hb⟩ := H
  exact ⟨⟨T, S, h.perm p, hT, hS, h0⟩, hb⟩
theorem St.rot3 {w0 w : World} {A B C : Res} {L : List Res} (H : St w0 w (A :: B :: C :: L)) : St w0 w (C :: A :: B :: L) :=
  H.perm (((List.Perm.swap C B L).cons A).trans (List.Perm.swap C A _))
theorem St.rot4 {w0 w : World} {A B C D : Res} {L : List Res} (H : St w0 w (A :: B :: C :: D :: L)) : St w0 w (D :: A :: B :: C :: L) :=
  H.perm (((((List.Perm.swap D C L).cons B).trans (List.Perm.swap D B _)).cons A).trans (List.Perm.swap D A _))
theorem St.back3 {w0 w : World} {A B C : Res} {L : List Res} (H : St w0 w (A :: B :: C :: L)) : St w0 w (B :: C :: A :: L) :=
  H.perm ((List.Perm.swap B A _).trans ((List.Perm.swap C A L).cons B))
theorem St.back4 {w0 w : World} {A B C D : Res} {L : List Res} (H : St w0 w (A :: B :: C :: D :: L)) : St w0 w (B :: C :: D :: A :: L) :=
  H.perm ((List.Perm.swap B A _).trans (((List.Perm.swap C A _).trans ((List.Perm.swap D A L).cons C)).cons B))

/-- One resource in place of another one, in the same world. -/
theorem St.imp {w0 w : World} {A B : Res} {L : List Res} (H : St w0 w (A :: L)) (h : ∀ T S, A.has w T S → (∀ i, S i → ¬ T i) → (∀ i, T i → i < w.heap.size) → B.has w T S) : St w0 w (B :: L) :=
  H.updS fun T S ha hS hT => ⟨S, h T S ha hS hT, fun _ h => .inl h, Moved.refl _ _⟩

theorem St.drop {w0 w : World} {A : Res} {L : List Res} (H : St w0 w (A :: L)) : St w0 w L := by
  obtain ⟨⟨T, S, ⟨S1, S2, h1, h2, h3, h4⟩, hT, hS, h0⟩, hb⟩ := H
  exact ⟨⟨T, S2, h2, hT, fun i hi => hS i ((h4 i).2 (.inr hi)), h0⟩, hb⟩

/-- Nothing. -/
def rEmp : Res := ⟨fun _ _ S => ∀ i, ¬ S i, fun h i hi => absurd hi (h i), fun h _ _ _ => h⟩
theorem St.emp {w0 w : World} {L : List Res} (H : St w0 w L) : St w0 w (rEmp :: L) := by
  obtain ⟨⟨T, S, h, hT, hS, h0⟩, hb⟩ := H
  exact ⟨⟨T, S, ⟨fun _ => False, S, fun _ h => h, h, fun _ h => h.elim, fun i => by simp⟩, hT, hS, h0⟩, hb⟩

/-- A block of one's own. -/
def rBlk (b : Nat) (o : Obj) : Res :=
  ⟨fun w _ S => w.heap[b]? = some o ∧ ∀ i, S i ↔ i = b, fun h i hi => by rw [(h.2 i).1 hi]; exact (Array.getElem?_eq_some_iff.1 h.1).1,
   fun h _ hk _ => ⟨(hk b (.inl ((h.2 b).2 rfl))).trans h.1, h.2⟩⟩
/-- A block that nobody writes. -/
def rConst (b : Nat) (o : Obj) : Res :=
  ⟨fun w T S => (w.heap[b]? = some o ∧ T b) ∧ ∀ i, ¬ S i, fun h i hi => absurd hi (h.2 i),
   fun h _ hk hT => ⟨⟨(hk b (.inr h.1.2)).trans h.1.1, hT b h.1.2⟩, h.2⟩⟩
/-- Two together. -/
def rTwo (A B : Res) : Res :=
  ⟨fun w T S => ∃ S1 S2, A.has w T S1 ∧ B.has w T S2 ∧ (∀ i, S1 i → ¬ S2 i) ∧ ∀ i, S i ↔ S1 i ∨ S2 i,
   fun ⟨S1, S2, h1, h2, _, h4⟩ i hi => ((h4 i).1 hi).elim (A.lt h1 i) (B.lt h2 i),
   fun ⟨S1, S2, h1, h2, h3, h4⟩ ht hk hT => ⟨S1, S2, A.kept h1 ht (fun i hi => hk i (hi.imp_left fun h => (h4 i).2 (.inl h))) hT, B.kept h2 ht (fun i hi => hk i (hi.imp_left fun h => (h4 i).2 (.inr h))) hT, h3, h4⟩⟩
/-- Some one of many. -/
def rEx {α : Type} (A : α → Res) : Res :=
  ⟨fun w T S => ∃ x, (A x).has w T S, fun ⟨x, h⟩ => (A x).lt h, fun ⟨x, h⟩ ht hk hT => ⟨x, (A x).kept h ht hk hT⟩⟩
/-- With a plain fact. -/
def rAnd (p : Prop) (A : Res) : Res :=
  ⟨fun w T S => p ∧ A.has w T S, fun h => A.lt h.2, fun h ht hk hT => ⟨h.1, A.kept h.2 ht hk hT⟩⟩
/-- A map of one's own. -/
def rMap {H : Type} (P : Program) (k : TypeId) (R : Value → Option (DataW H × List MemPlace)) (b n : Nat) (D : DataW H) : Res :=
  ⟨fun w _ S => w.ownsMap P k R b n D ∧ ∀ i, S i ↔ i = b, fun h i hi => by rw [(h.2 i).1 hi]; exact h.1.lt,
   fun h _ hk _ => ⟨by obtain ⟨es, clock, hb, r⟩ := h.1; exact ⟨es, clock, (hk b (.inl ((h.2 b).2 rfl))).trans hb, r⟩, h.2⟩⟩

theorem St.join {w0 w : World} {A B : Res} {L : List Res} (H : St w0 w (A :: B :: L)) : St w0 w (rTwo A B :: L) := by
  obtain ⟨⟨T, S, ⟨S1, S2, h1, ⟨S3, S4, h5, h6, h7, h8⟩, h3, h4⟩, hT, hS, h0⟩, hb⟩ := H
  refine ⟨⟨T, S, ⟨fun i => S1 i ∨ S3 i, S4, ⟨S1, S3, h1, h5, fun i hi h => h3 i hi ((h8 i).2 (.inl h)), fun _ => Iff.rfl⟩, h6, fun i hi h => ?_, fun i => ?_⟩, hT, hS, h0⟩, hb⟩
  · rcases hi with hi | hi
    · exact h3 i hi ((h8 i).2 (.inr h))
    · exact h7 i hi h
  · rw [h4, h8, or_assoc]
theorem St.split {w0 w : World} {A B : Res} {L : List Res} (H : St w0 w (rTwo A B :: L)) : St w0 w (A :: B :: L) := by
  obtain ⟨⟨T, S, ⟨S0, S4, ⟨S1, S3, h1, h5, h3, h8⟩, h6, h7, h4⟩, hT, hS, h0⟩, hb⟩ := H
  refine ⟨⟨T, S, ⟨S1, fun i => S3 i ∨ S4 i, h1, ⟨S3, S4, h5, h6, fun i hi h => h7 i ((h8 i).2 (.inr hi)) h, fun _ => Iff.rfl⟩, fun i hi h => ?_, fun i => ?_⟩, hT, hS, h0⟩, hb⟩
  · rcases h with h | h
    · exact h3 i hi h
    · exact h7 i ((h8 i).2 (.inl hi)) h
  · rw [h4, h8, or_assoc]
theorem St.ex1 {w0 w : World} {α : Type} {A : α → Res} {L : List Res} (H : St w0 w (rEx A :: L)) : ∃ x, St w0 w (A x :: L) := by
  obtain ⟨⟨T, S, ⟨S1, S2, ⟨x, h1⟩, h2, h3, h4⟩, hT, hS, h0⟩, hb⟩ := H
  exact ⟨x, ⟨⟨T, S, ⟨S1, S2, h1, h2, h3, h4⟩, hT, hS, h0⟩, hb⟩⟩
theorem St.in1 {w0 w : World} {α : Type} {A : α → Res} {L : List Res} (x : α) (H : St w0 w (A x :: L)) : St w0 w (rEx A :: L) := H.imp fun _ _ h _ _ => ⟨x, h⟩
theorem St.fact {w0 w : World} {p : Prop} {A : Res} {L : List Res} (H : St w0 w (rAnd p A :: L)) : p ∧ St w0 w (A :: L) := by
  obtain ⟨T, S, h, _⟩ := H.fst
  exact ⟨h.1, H.imp fun _ _ h _ _ => h.2⟩
theorem St.infact {w0 w : World} {p : Prop} {A : Res} {L : List Res} (hp : p) (H : St w0 w (A :: L)) : St w0 w (rAnd p A :: L) := H.imp fun _ _ h _ _ => ⟨hp, h⟩

/-- Behind a call that wrote no old block, or a draw. -/
theorem St.go {w0 w w' : World} {L : List Res} (H : St w0 w L) (hb : Below w.heap.size w w') : St w0 w' L :=
  (H.emp.updS (w' := w') (B := rEmp) fun T S h _ _ => ⟨S, h, fun _ h => .inl h, Moved.below hb _⟩).drop
/-- .. and made a resource of new blocks. -/
theorem St.gain {w0 w w' : World} {L : List Res} {B : Res} (H : St w0 w L) (hb : Below w.heap.size w w') (h : ∀ T : Foot, (∀ i, T i → i < w.heap.size) → ∃ S', B.has w' T S' ∧ ∀ i, S' i → w.heap.size ≤ i) : St w0 w' (B :: L) :=
  H.emp.updS fun T S _ _ hT => by
    obtain ⟨S', h1, h2⟩ := h T hT
    exact ⟨S', h1, fun i hi => .inr (h2 i hi), Moved.below hb _⟩
theorem St.alloc {w0 w : World} {L : List Res} (H : St w0 w L) (o : Obj) : St w0 (w.alloc o) (rBlk w.heap.size o :: L) :=
  H.gain ((Below.refl _ w).alloc (Nat.le_refl _) o) fun T _ => ⟨fun i => i = w.heap.size, ⟨(MapKept.heap_alloc w o).1, fun _ => Iff.rfl⟩, fun i hi => by omega⟩
theorem St.drew {w0 w : World} {L : List Res} (H : St w0 w L) : St w0 w.drew L := H.go ((Below.refl _ w).drew)
/-- A block of one's own is written no more. -/
theorem St.freeze {w0 w : World} {b : Nat} {o : Obj} {L : List Res} (H : St w0 w (rBlk b o :: L)) : St w0 w (rConst b o :: L) :=
  H.upd fun T S h hS hT => ⟨fun i => T i ∨ i = b, fun _ => False, ⟨⟨h.1, .inr rfl⟩, fun _ h => h⟩, fun _ h => .inl h, fun i hi => by
    rcases hi with hi | rfl
    · exact ⟨hT i hi, .inl hi⟩
    · exact ⟨(Array.getElem?_eq_some_iff.1 h.1).1, .inr (.inl ((h.2 _).2 rfl))⟩, fun _ h => h.elim, fun _ h => h.elim, Moved.refl _ _⟩
theorem St.dup {w0 w : World} {b : Nat} {o : Obj} {L : List Res} (H : St w0 w (rConst b o :: L)) : St w0 w (rConst b o :: rConst b o :: L) := by
  obtain ⟨⟨T, S, ⟨S1, S2, h1, h2, h3, h4⟩, hT, hS, h0⟩, hb⟩ := H
  exact ⟨⟨T, S, ⟨S1, S, h1, ⟨S1, S2, h1, h2, h3, h4⟩, fun i hi => absurd hi (h1.2 i), fun i => ⟨.inr, fun h => h.elim (fun h => absurd h (h1.2 i)) id⟩⟩, hT, hS, h0⟩, hb⟩
theorem St.old {w0 w : World} {b : Nat} {o : Obj} {L : List Res} (H : St w0 w L) (hb : w0.heap[b]? = some o) : St w0 w (rConst b o :: L) := by
  have l : b < w0.heap.size := (Array.getElem?_eq_some_iff.1 hb).1
  have e := (H.below.block b l).trans hb
  obtain ⟨⟨T, S, h, hT, hS, h0⟩, hB⟩ := H
  exact ⟨⟨T, S, ⟨fun _ => False, S, ⟨⟨e, h0 b l⟩, fun _ h => h⟩, h, fun _ h => h.elim, fun i => by simp⟩, hT, hS, h0⟩, hB⟩
theorem St.blk {w0 w : World} {b : Nat} {o : Obj} {L : List Res} (H : St w0 w (rBlk b o :: L)) : w.heap[b]? = some o := by
  obtain ⟨T, S, h, _⟩ := H.fst; exact h.1
theorem St.const {w0 w : World} {b : Nat} {o : Obj} {L : List Res} (H : St w0 w (rConst b o :: L)) : w.heap[b]? = some o := by
  obtain ⟨T, S, h, _⟩ := H.fst; exact h.1.1
theorem St.map {w0 w : World} {H : Type} {P : Program} {k : TypeId} {R : Value → Option (DataW H × List MemPlace)} {b n : Nat} {D : DataW H} {L : List Res} (h : St w0 w (rMap P k R b n D :: L)) : w.ownsMap P k R b n D := by
  obtain ⟨T, S, h, _⟩ := h.fst; exact h.1
theorem St.setMap {w0 w w' : World} {H : Type} {P : Program} {k : TypeId} {R : Value → Option (DataW H × List MemPlace)} {b n n' : Nat} {D D' : DataW H} {L : List Res} (h : St w0 w (rMap P k R b n D :: L)) (h' : w'.ownsMap P k R b n' D') (g : w.grownBy w' (some b)) : St w0 w' (rMap P k R b n' D' :: L) :=
  h.updS fun T S ha _ _ => ⟨S, ⟨h', ha.2⟩, fun _ h => .inl h, Moved.grown g fun k e => by cases e; exact (ha.2 _).2 rfl⟩
theorem heap_setCell_self {w : World} {b k : Nat} {cs : Array Value} {e : TypeId} {fz : Nat × Nat} (h : w.heap[b]? = some (.cells cs e fz)) (u : Value) : (w.setCell ⟨b, k, none⟩ u).heap[b]? = some (.cells (cs.setIfInBounds k u) e fz) := by
  simp [World.setCell, Array.getElem?_modify, h]
theorem St.setCell {w0 w : World} {b : Nat} {cs : Array Value} {e : TypeId} {fz : Nat × Nat} {L : List Res} (H : St w0 w (rBlk b (.cells cs e fz) :: L)) (k : Nat) (u : Value) : St w0 (w.setCell ⟨b, k, none⟩ u) (rBlk b (.cells (cs.setIfInBounds k u) e fz) :: L) :=
  H.updS fun T S ha _ _ => ⟨S, ⟨heap_setCell_self ha.1 u, ha.2⟩, fun _ h => .inl h, (Moved.refl _ _).setCell ((ha.2 _).2 rfl) _⟩
/-- The object of a block is written anew. -/
theorem St.setBlk {w0 w w' : World} {b : Nat} {o o' : Obj} {L : List Res} (H : St w0 w (rBlk b o :: L)) (h : w'.heap[b]? = some o') (m : Moved w w' fun i => i = b) : St w0 w' (rBlk b o' :: L) :=
  H.updS fun T S ha _ _ => ⟨S, ⟨h, ha.2⟩, fun _ h => .inl h, ⟨m.os, m.tape, m.output, m.size, fun i hi hn => m.block i hi fun e => hn ((ha.2 i).2 e)⟩⟩

theorem Holds.append {w : World} {T : Foot} : ∀ {M L : List Res} {S : Foot}, Holds w T (M ++ L) S ↔ ∃ S1 S2, Holds w T M S1 ∧ Holds w T L S2 ∧ (∀ i, S1 i → ¬ S2 i) ∧ ∀ i, S i ↔ S1 i ∨ S2 i
  | [], L, S => ⟨fun h => ⟨fun _ => False, S, fun _ h => h, h, fun _ h => h.elim, fun i => by simp⟩, fun ⟨S1, S2, h1, h2, _, h4⟩ => by
      have e : S = S2 := by funext i; exact propext ((h4 i).trans ⟨fun h => h.elim (fun h => absurd h (h1 i)) id, .inr⟩)
      rw [e]; exact h2⟩
  | A :: M, L, S => by
    constructor
    · rintro ⟨S1, S2, h1, h2, h3, h4⟩
      obtain ⟨S3, S4, h5, h6, h7, h8⟩ := Holds.append.1 h2
      refine ⟨fun i => S1 i ∨ S3 i, S4, ⟨S1, S3, h1, h5, fun i hi h => h3 i hi ((h8 i).2 (.inl h)), fun _ => Iff.rfl⟩, h6, fun i hi h => ?_, fun i => by rw [h4, h8, or_assoc]⟩
      rcases hi with hi | hi
      · exact h3 i hi ((h8 i).2 (.inr h))
      · exact h7 i hi h
    · rintro ⟨S0, S4, ⟨S1, S3, h1, h5, h3, h8⟩, h6, h7, h4⟩
      refine ⟨S1, fun i => S3 i ∨ S4 i, h1, Holds.append.2 ⟨S3, S4, h5, h6, fun i hi h => h7 i ((h8 i).2 (.inr hi)) h, fun _ => Iff.rfl⟩, fun i hi h => ?_, fun i => by rw [h4, h8, or_assoc]⟩
      rcases h with h | h
      · exact h3 i hi h
      · exact h7 i ((h8 i).2 (.inl hi)) h
/-- Several as one. -/
def rAll (M : List Res) : Res := ⟨fun w T S => Holds w T M S, fun h => h.lt, fun h ht hk hT => h.kept ht hk hT⟩
theorem St.opn {w0 w : World} {M L : List Res} (H : St w0 w (rAll M :: L)) : St w0 w (M ++ L) := by
  obtain ⟨⟨T, S, h, r⟩, hb⟩ := H
  exact ⟨⟨T, S, Holds.append.2 h, r⟩, hb⟩
theorem St.cls {w0 w : World} {M L : List Res} (H : St w0 w (M ++ L)) : St w0 w (rAll M :: L) := by
  obtain ⟨⟨T, S, h, r⟩, hb⟩ := H
  exact ⟨⟨T, S, Holds.append.1 h, r⟩, hb⟩
/-- A row of one's own (or nil). -/
def rRow (e : TypeId) (size : Nat) (v : Value) (n : Nat) (xs : List Value) : Res :=
  ⟨fun w _ S => w.ownsRow 0 e size v n xs ∧ ∀ i, S i ↔ v.ownBlock = some i, fun h i hi => (h.1.lt i ((h.2 i).1 hi)).2,
   fun {w T S w' T'} h _ hk _ => ⟨by
     refine ⟨h.1.1, ?_⟩
     rcases h.1.2 with hn | ⟨g, cap, cur, rfl, hb, hg, rest⟩
     · exact .inl hn
     · exact .inr ⟨g, cap, cur, rfl, hb, (hk g (.inl ((h.2 g).2 rfl))).trans hg, rest⟩, h.2⟩⟩
theorem St.row {w0 w : World} {e : TypeId} {size : Nat} {v : Value} {n : Nat} {xs : List Value} {L : List Res} (H : St w0 w (rRow e size v n xs :: L)) : w.ownsRow 0 e size v n xs := by
  obtain ⟨T, S, h, _⟩ := H.fst; exact h.1
theorem ownsRow_zero {w : World} {b : Nat} {e : TypeId} {size : Nat} {v : Value} {n : Nat} {xs : List Value} (h : w.ownsRow b e size v n xs) : w.ownsRow 0 e size v n xs :=
  ⟨h.1, h.2.imp_right fun ⟨g, cap, cur, e, hb, r⟩ => ⟨g, cap, cur, e, Nat.zero_le _, r⟩⟩
/-- A new row that a call has made. -/
theorem St.gainRow {w0 w w' : World} {L : List Res} {e : TypeId} {size : Nat} {v : Value} {n : Nat} {xs : List Value} (H : St w0 w L) (hb : Below w.heap.size w w') (h : w'.ownsRow w.heap.size e size v n xs) : St w0 w' (rRow e size v n xs :: L) :=
  H.gain hb fun T _ => ⟨fun i => v.ownBlock = some i, ⟨ownsRow_zero h, fun _ => Iff.rfl⟩, fun i hi => (h.lt i hi).1⟩
/-- The row is written, or grown. -/
theorem St.setRow {w0 w w' : World} {L : List Res} {e e' : TypeId} {size size' : Nat} {v v' : Value} {n n' : Nat} {xs xs' : List Value} (H : St w0 w (rRow e size v n xs :: L)) (h : w'.ownsRow 0 e' size' v' n' xs') (g : w.grownBy w' v.ownBlock)
    (hv : v'.ownBlock = v.ownBlock ∨ ∀ k, v'.ownBlock = some k → w.heap.size ≤ k) : St w0 w' (rRow e' size' v' n' xs' :: L) :=
  H.updS fun T S ha _ _ => ⟨fun i => v'.ownBlock = some i, ⟨h, fun _ => Iff.rfl⟩, fun i hi => by
    rcases hv with hv | hv
    · exact .inl ((ha.2 i).2 (hv ▸ hi))
    · exact .inr (hv i hi), Moved.grown g fun k hk => (ha.2 k).2 hk⟩
/-- A row that is written no more: it stays as it is, and may be read through whatever leads to it. -/
theorem St.rowT {w0 w : World} {e : TypeId} {size : Nat} {v : Value} {n : Nat} {xs : List Value} {L : List Res} {B : Res} (H : St w0 w (rRow e size v n xs :: L))
    (h : ∀ T : Foot, (∀ i, T i → i < w.heap.size) → w.ownsRow 0 e size v n xs → (∀ i, v.ownBlock = some i → T i) → B.has w T fun _ => False) : St w0 w (B :: L) :=
  H.upd fun T S ha hS hT => ⟨fun i => T i ∨ S i, fun _ => False, h _ (fun i hi => hi.elim (hT i) fun hi => (ha.1.lt i ((ha.2 i).1 hi)).2) ha.1 (fun i hi => .inr ((ha.2 i).2 hi)), fun _ => .inl, fun i hi => by
    rcases hi with hi | hi
    · exact ⟨hT i hi, .inl hi⟩
    · exact ⟨(ha.1.lt i ((ha.2 i).1 hi)).2, .inr (.inl hi)⟩, fun _ h => h.elim, fun _ h => h.elim, Moved.refl _ _⟩
theorem Holds.cons_mono {w : World} {T : Foot} {A B : Res} {L M : List Res} (h : ∀ S, A.has w T S → B.has w T S) (hl : ∀ S, Holds w T L S → Holds w T M S) : ∀ S, Holds w T (A :: L) S → Holds w T (B :: M) S :=
  fun _ ⟨S1, S2, h1, h2, r⟩ => ⟨S1, S2, h S1 h1, hl S2 h2, r⟩
theorem St.mono {w0 w : World} {L M : List Res} (H : St w0 w L) (h : ∀ T S, Holds w T L S → Holds w T M S) : St w0 w M := by
  obtain ⟨⟨T, S, h1, r⟩, hb⟩ := H
  exact ⟨⟨T, S, h T S h1, r⟩, hb⟩
theorem Moved.cell {w w' : World} {b : Nat} (h : Moved w w' fun i => i = b) (k : Nat) (u : Value) : Moved w (w'.setCell ⟨b, k, none⟩ u) fun i => i = b := h.setCell (a := ⟨b, k, none⟩) rfl u
theorem Moved.cell0 (w : World) (b k : Nat) (u : Value) : Moved w (w.setCell ⟨b, k, none⟩ u) fun i => i = b := (Moved.refl w _).cell k u
theorem St.rot5 {w0 w : World} {X1 X2 X3 X4 X5 : Res} {L : List Res} (H : St w0 w (X1 :: X2 :: X3 :: X4 :: X5 :: L)) : St w0 w (X5 :: X1 :: X2 :: X3 :: X4 :: L) := H.perm (List.perm_middle (l₁ := [X1, X2, X3, X4]))
theorem St.back5 {w0 w : World} {X1 X2 X3 X4 X5 : Res} {L : List Res} (H : St w0 w (X1 :: X2 :: X3 :: X4 :: X5 :: L)) : St w0 w (X2 :: X3 :: X4 :: X5 :: X1 :: L) := H.perm (List.perm_middle (l₁ := [X2, X3, X4, X5])).symm
theorem St.rot6 {w0 w : World} {X1 X2 X3 X4 X5 X6 : Res} {L : List Res} (H : St w0 w (X1 :: X2 :: X3 :: X4 :: X5 :: X6 :: L)) : St w0 w (X6 :: X1 :: X2 :: X3 :: X4 :: X5 :: L) := H.perm (List.perm_middle (l₁ := [X1, X2, X3, X4, X5]))
theorem St.back6 {w0 w : World} {X1 X2 X3 X4 X5 X6 : Res} {L : List Res} (H : St w0 w (X1 :: X2 :: X3 :: X4 :: X5 :: X6 :: L)) : St w0 w (X2 :: X3 :: X4 :: X5 :: X6 :: X1 :: L) := H.perm (List.perm_middle (l₁ := [X2, X3, X4, X5, X6])).symm
theorem St.rot7 {w0 w : World} {X1 X2 X3 X4 X5 X6 X7 : Res} {L : List Res} (H : St w0 w (X1 :: X2 :: X3 :: X4 :: X5 :: X6 :: X7 :: L)) : St w0 w (X7 :: X1 :: X2 :: X3 :: X4 :: X5 :: X6 :: L) := H.perm (List.perm_middle (l₁ := [X1, X2, X3, X4, X5, X6]))
theorem St.back7 {w0 w : World} {X1 X2 X3 X4 X5 X6 X7 : Res} {L : List Res} (H : St w0 w (X1 :: X2 :: X3 :: X4 :: X5 :: X6 :: X7 :: L)) : St w0 w (X2 :: X3 :: X4 :: X5 :: X6 :: X7 :: X1 :: L) := H.perm (List.perm_middle (l₁ := [X2, X3, X4, X5, X6, X7])).symm
theorem St.rot8 {w0 w : World} {X1 X2 X3 X4 X5 X6 X7 X8 : Res} {L : List Res} (H : St w0 w (X1 :: X2 :: X3 :: X4 :: X5 :: X6 :: X7 :: X8 :: L)) : St w0 w (X8 :: X1 :: X2 :: X3 :: X4 :: X5 :: X6 :: X7 :: L) := H.perm (List.perm_middle (l₁ := [X1, X2, X3, X4, X5, X6, X7]))
theorem St.back8 {w0 w : World} {X1 X2 X3 X4 X5 X6 X7 X8 : Res} {L : List Res} (H : St w0 w (X1 :: X2 :: X3 :: X4 :: X5 :: X6 :: X7 :: X8 :: L)) : St w0 w (X2 :: X3 :: X4 :: X5 :: X6 :: X7 :: X8 :: X1 :: L) := H.perm (List.perm_middle (l₁ := [X2, X3, X4, X5, X6, X7, X8])).symm
theorem St.rot9 {w0 w : World} {X1 X2 X3 X4 X5 X6 X7 X8 X9 : Res} {L : List Res} (H : St w0 w (X1 :: X2 :: X3 :: X4 :: X5 :: X6 :: X7 :: X8 :: X9 :: L)) : St w0 w (X9 :: X1 :: X2 :: X3 :: X4 :: X5 :: X6 :: X7 :: X8 :: L) := H.perm (List.perm_middle (l₁ := [X1, X2, X3, X4, X5, X6, X7, X8]))
theorem St.back9 {w0 w : World} {X1 X2 X3 X4 X5 X6 X7 X8 X9 : Res} {L : List Res} (H : St w0 w (X1 :: X2 :: X3 :: X4 :: X5 :: X6 :: X7 :: X8 :: X9 :: L)) : St w0 w (X2 :: X3 :: X4 :: X5 :: X6 :: X7 :: X8 :: X9 :: X1 :: L) := H.perm (List.perm_middle (l₁ := [X2, X3, X4, X5, X6, X7, X8, X9])).symm
end Go.Proofs.YtfhdiddlloiglaaDoor
end
