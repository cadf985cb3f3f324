/- Texts of this claim, one behind the other: Rep. -/
import Derived.Test.YtfhdiddlloiglaaDoorProg
import Derived.Test.YtfhdiddlloiglaaDoorMA1
import Derived.Test.YtfhdiddlloiglaaDoorMA2
import Derived.Maps.RangeWalk
import Derived.WideKeyPair
import Derived.DeepKeys4
import Derived.KernelRfl
import Derived.Lib.SlKeysI
section
/- The program's disk in memory. -/
namespace Go.Proofs.YtfhdiddlloiglaaDoor
open Go.RowKit Go.Maps
set_option linter.unusedVariables false
set_option linter.unusedSimpArgs false
set_option maxRecDepth 100000

abbrev bytes (l : List Int) : List Value := l.map (Value.int .u8)

/-! ### the maps' keys -/
theorem K3 : Keyed Tryd.prog 3 := int_keyed Tryd.underlying3
theorem laidOut : laidOutB Tryd.prog = true := by kernel_rfl
theorem row73 : (102 : TypeId) < Tryd.prog.types.size := of_decide_eq_true (by kernel_rfl)
theorem kt73 : Tryd.prog.keyTypeAt 3 102 = true := by kernel_rfl
theorem kt73' : Tryd.prog.keyType 102 = true := by kernel_rfl
theorem K73 : Keyed Tryd.prog 102 := Keyed.of_law (deep_law_laid laidOut (m := 3) (by omega) row73 kt73 (by rw [Tryd.underlying102]))
def spotK (i k : Int) : Lit := .string (keyBytes [.int .i64 i, .int .i64 k])
theorem types_size : ∃ m, Tryd.prog.types.size = m + 2 := ⟨Tryd.prog.types.size - 2, by have h : 102 < Tryd.prog.types.size := row73; omega⟩
theorem cells73 : Tryd.prog.cellsOf 102 = 2 := by kernel_rfl
theorem cells3 : Tryd.prog.cellsOf 3 = 1 := by kernel_rfl
theorem spot_key {a b : Int} (wa : (Lit.int .i64 a).wf = true) (wb : (Lit.int .i64 b).wf = true) : keyOf Tryd.prog 102 (.agg #[.int .i64 a, .int .i64 b]) = some (spotK a b) := by
  obtain ⟨m, hm⟩ := types_size
  unfold keyOf
  simp only [Tryd.underlying102]
  rw [if_pos (by simp [kt73', Value.formed, Tryd.underlying102, cells73]), hm]
  unfold Program.keyLits
  simp only [Tryd.underlying102, Value.cells]
  rw [if_pos (by rw [cells73]; simp)]
  simp [cells3, Program.keyLits, Tryd.underlying3, wa, wb, spotK]
theorem wf64 {x : Int} (h1 : -9223372036854775808 ≤ x) (h2 : x ≤ 9223372036854775807) : (Lit.int .i64 x).wf = true := by
  simp [Lit.wf, IntKind.min, IntKind.max, IntKind.bits, IntKind.signed]; omega
theorem spotK_inj {a b a' b' : Int} (wa : (Lit.int .i64 a).wf = true) (wb : (Lit.int .i64 b).wf = true) (wa' : (Lit.int .i64 a').wf = true) (wb' : (Lit.int .i64 b').wf = true) (h : spotK a b = spotK a' b') : a = a' ∧ b = b' := by
  have := K73.inj (spot_key wa wb) (h ▸ spot_key wa' wb')
  injection this with e
  injection e with e
  injection e with e1 e2
  injection e1 with _ e1
  injection e2 with e2 _
  injection e2 with _ e2
  exact ⟨e1, e2⟩

/-! ### a slice's header as a datum -/
abbrev DU := DataW Unit
def hdr (b n c : Nat) : DU := .agg [.lit (.int .i64 b), .lit (.int .i64 n), .lit (.int .i64 c)]
def rdVal : Value → Option (DU × List MemPlace)
  | .slice (some a) n c => if a.off = 0 ∧ a.spot = none then some (hdr a.block n c, []) else none
  | .slice none n c => some (.agg [.lit (.int .i64 n), .lit (.int .i64 c)], [])
  | _ => none
theorem rdVal_mk (b n c : Nat) : rdVal (.slice (some ⟨b, 0, none⟩) n c) = some (hdr b n c, []) := by simp [rdVal]
theorem rdVal_nil : rdVal (.slice none 0 0) = some (.agg [.lit (.int .i64 0), .lit (.int .i64 0)], []) := rfl
theorem rdVal_inv {v : Value} {b n c : Nat} {ps : List MemPlace} (h : rdVal v = some (hdr b n c, ps)) : v = .slice (some ⟨b, 0, none⟩) n c := by
  unfold rdVal at h
  split at h
  · rename_i a n' c'
    split at h
    · rename_i hc
      obtain ⟨bl, off, sp⟩ := a
      obtain ⟨rfl, rfl⟩ := hc
      simp only [hdr, Option.some.injEq, Prod.mk.injEq, DataW.agg.injEq, List.cons.injEq, DataW.lit.injEq, Lit.int.injEq, true_and, and_true] at h
      obtain ⟨⟨h1, h2, h3⟩, _⟩ := h
      have e1 : bl = b := by omega
      have e2 : n' = n := by omega
      have e3 : c' = c := by omega
      rw [e1, e2, e3]
    · cases h
  · simp [hdr] at h
  · cases h

/-! ### the disk -/
/-- How often sectors were written. -/
structure Many (D : DU) (vals : List (List Sec)) : Prop where
  at_ : ∀ i : Nat, i < vals.length → D.atKey (.int .i64 i) (.lit (.int .i64 0)) = .lit (.int .i64 ((vals.getD i []).length - 1 : Nat))
  has : ∀ i : Nat, i < vals.length → Maps.has D (.int .i64 i) = decide (1 < (vals.getD i []).length)
  only : ∀ kl, Maps.has D kl = true → ∃ i : Nat, i < vals.length ∧ kl = .int .i64 i
/-- The value in block b. -/
def ValAt (w : World) (T : Foot) (b c : Nat) (s : Sec) : Prop := T b ∧ w.ownsRow 0 5 1 (.slice (some ⟨b, 0, none⟩) 256 c) 256 (bytes s)
theorem ValAt.kept {w w' : World} {T T' : Foot} {b c : Nat} {s : Sec} (h : ValAt w T b c s) (hk : ∀ i, T i → w'.heap[i]? = w.heap[i]?) (hT : ∀ i, T i → T' i) : ValAt w' T' b c s := by
  obtain ⟨h1, h2, h3⟩ := h
  refine ⟨hT b h1, h2, ?_⟩
  rcases h3 with ⟨h, _⟩ | ⟨g, cap, cur, e, hb, hg, r⟩
  · cases h
  · have : b = g := by injection e with e _ _; injection e with e; injection e
    subst this
    exact .inr ⟨b, cap, cur, e, hb, (hk b h1).trans hg, r⟩
/-- The values written since the last sync. -/
def rVals (D : DU) (vals : List (List Sec)) : Res :=
  ⟨fun w T S => (∀ (i k : Nat) (s : Sec), 1 ≤ k → (vals.getD i [])[k]? = some s → ∃ b c, (∀ z, D.atKey (spotK i k) z = hdr b 256 c) ∧ ValAt w T b c s) ∧ ∀ i, ¬ S i, fun h i hi => absurd hi (h.2 i),
   fun h _ hk hT => ⟨fun i k s h1 h2 => by
     obtain ⟨b, c, h3, h4⟩ := h.1 i k s h1 h2
     exact ⟨b, c, h3, h4.kept (fun i hi => hk i (.inr hi)) hT⟩, h.2⟩⟩
structure DX where
  a : Nat
  cap : Nat
  mf : Nat
  mm : Nat
  Df : DU
  Dm : DU
def dObj (x : DX) (d : Dsk) : Obj := .cells #[.slice (some ⟨x.a, 0, none⟩) (d.vals.length * 256) x.cap, .map (some x.mf), .map (some x.mm), .int .i64 d.left, .bool d.off, .int .i64 (d.taken : Nat)] 83
def maxTaken : Nat := 1125899906842624
def rDiskX (p : Nat) (d : Dsk) (x : DX) : List Res :=
  [rAnd (d.Ok ∧ Many x.Dm d.vals) (rBlk p (dObj x d)), rRow 5 1 (.slice (some ⟨x.a, 0, none⟩) (d.vals.length * 256) x.cap) (d.vals.length * 256) (bytes d.sure),
   rMap Tryd.prog 102 rdVal x.mf d.extra x.Df, rMap Tryd.prog 3 (plainElem Tryd.prog 3) x.mm d.extra x.Dm, rVals x.Df d.vals]
def rDisk (p : Nat) (d : Dsk) : Res := rEx fun x : DX => rAll (rDiskX p d x)

section
variable {w0 w : World} {p : Nat} {d : Dsk} {L : List Res}
theorem St.disk (H : St w0 w (rDisk p d :: L)) : ∃ x : DX, St w0 w (rDiskX p d x ++ L) := by
  obtain ⟨x, H⟩ := H.ex1
  exact ⟨x, H.opn⟩
theorem St.mkDisk (x : DX) (H : St w0 w (rDiskX p d x ++ L)) : St w0 w (rDisk p d :: L) := H.cls.in1 x
/-- What a disk says of the world. -/
structure DiskIs (w : World) (p : Nat) (d : Dsk) (x : DX) : Prop where
  ok : d.Ok
  many : Many x.Dm d.vals
  blk : w.heap[p]? = some (dObj x d)
  sure : w.ownsRow 0 5 1 (.slice (some ⟨x.a, 0, none⟩) (d.vals.length * 256) x.cap) (d.vals.length * 256) (bytes d.sure)
  mf : w.ownsMap Tryd.prog 102 rdVal x.mf d.extra x.Df
  mm : w.ownsMap Tryd.prog 3 (plainElem Tryd.prog 3) x.mm d.extra x.Dm
  vals : ∀ (i k : Nat) (s : Sec), 1 ≤ k → (d.vals.getD i [])[k]? = some s → ∃ b c, (∀ z, x.Df.atKey (spotK i k) z = hdr b 256 c) ∧ w.ownsRow 0 5 1 (.slice (some ⟨b, 0, none⟩) 256 c) 256 (bytes s)
theorem St.diskIs {x : DX} (H : St w0 w (rDiskX p d x ++ L)) : DiskIs w p d x := by
  obtain ⟨⟨h1, h3⟩, H1⟩ := St.fact H
  obtain ⟨T, S, h, _⟩ := H1.drop.drop.drop.drop.fst
  exact ⟨h1, h3, H1.blk, H1.drop.row, H1.drop.drop.map, H1.drop.drop.drop.map, fun i k s h1 h2 => by
    obtain ⟨b, c, h3, h4⟩ := h.1 i k s h1 h2
    exact ⟨b, c, h3, h4.2⟩⟩
theorem St.diskOk (H : St w0 w (rDisk p d :: L)) : d.Ok := by
  obtain ⟨x, H⟩ := H.disk
  exact H.diskIs.ok
end
end Go.Proofs.YtfhdiddlloiglaaDoor
end
