/- The walks of the package path's functions: each comes to what its plain function says. -/
import Derived.RangeFuncNested
import Derived.RangeFuncBound
import Derived.RangeFuncCalls
import Derived.RangeFuncLeaves
import Derived.RangeFuncBox
import Derived.Shelf.Abstract
import Derived.Shelf.RegionOpen
import Derived.WalkKit
import Derived.OwnWalkIn
import Derived.TacticsInMore
import Derived.LoopNIn
import Derived.LoopIn
import Derived.Maps.AppendAt
import Derived.Test.YtboefcnghngoaaaPart
import Derived.Outline
import Derived.Deep.QuietTactic
import Derived.BigQuiet
import Derived.WalkSpells
import Derived.Deep.DeepFit
import Derived.Lib.Hide
import Derived.Lib.IndexBytes
import Derived.Test.YtboefcnghngoaaaShelf
import Derived.Test.YtboefcnghngoaaaSpec
namespace Go.Proofs.Ytboefcnghngoaaa
open Go.RowKit Go.Shelf Go.Lib Sp
attribute [local go_sem] Oper.semAt_some

/-- The closure in 'named'. -/
theorem odd_gives (W : World) (r : Nat) : FnGives Try.prog 44 #[] #[encR r] (.bool (odd r)) W := by
  unfold FnGives
  by_cases h1 : (r : Int) < 33
  · have e : odd r = true := by simp [odd]; omega
    have e' := Lib.hid e; clear e
    rw [e'.out]
    have b1 : decide ((r : Int) < 33) = true := decide_eq_true h1
    go_enter Try.func44, Try.ntmps44
    go_wp2
    go_ret
    exact ⟨rfl, 0, rfl⟩
  · by_cases h2 : (126 : Int) < (r : Int)
    · have e : odd r = true := by simp [odd]; omega
      have e' := Lib.hid e; clear e
      rw [e'.out]
      have b1 : decide ((r : Int) < 33) = false := decide_eq_false h1
      have b2 : decide ((126 : Int) < (r : Int)) = true := decide_eq_true h2
      go_enter Try.func44, Try.ntmps44
      go_wp2
      go_ret
      exact ⟨rfl, 0, rfl⟩
    · have e : odd r = ((r : Int) == 47) := by
        have a1 : ¬ r < 33 := by omega
        have a2 : ¬ 126 < r := by omega
        simp [odd, a1, a2]; rw [Bool.eq_iff_iff]; simp; omega
      have e' := Lib.hid e; clear e
      rw [e'.out]
      have b1 : decide ((r : Int) < 33) = false := decide_eq_false h1
      have b2 : decide ((126 : Int) < (r : Int)) = false := decide_eq_false h2
      go_enter Try.func44, Try.ntmps44
      go_wp2
      go_ret
      exact ⟨rfl, 0, rfl⟩

/-- path.named. -/
theorem named_calls (s : ByteArray) (w : World) : Calls Try.prog 33 #[.string s] w fun e w' => e = .returned (.bool (isName s.data.toList)) ∧ Below w.heap.size w w' := by
  have hC := fun W => Try.strings_ContainsFunc 44 #[] (enters_of Try.func44 (by kernel_rfl) rfl) odd s W (fun W' r _ => odd_gives W' r)
  obtain ⟨B, hB⟩ : ∃ B, isName s.data.toList = B := ⟨_, rfl⟩
  rw [hB]
  have HB := Lib.hid hB; clear hB
  go_enter Try.func33, Try.ntmps33
  go_wp2_with (go_at_call 45; refine (hC _).mono ?_; rintro e w' ⟨rfl, hb⟩)
  all_goals go_ret
  all_goals have hsz := Lib.size_eq s
  all_goals refine ⟨?_, by first | assumption | exact Below.refl _ _⟩
  all_goals rw [← HB.out]
  all_goals clear HB hC
  all_goals simp only [contains_odd, ← toList_data] at hsz ⊢
  all_goals congr 1
  all_goals simp [isName, *]
  · have h32 : s.toList.length ≤ 32 := by omega
    simp [h32]
  · intro h; omega
/-- path.parts: the text is boxed; the function value captures the box. -/
theorem parts_in (s : ByteArray) (n : Nat) (w : World) : CallsIn Fence.wide n Try.prog 32 #[.string s] w fun e w' => e = .returned (.func (.func 42) #[] #[.pointer (some ⟨w.heap.size, 0, none⟩)]) ∧ w' = w.alloc (.cells #[.string s] 9) := by
  refine callsIn_of_wp Try.func32 rfl trivial ?_ rfl
  simp only [Try.ntmps32, List.size_toArray, List.length_cons, List.length_nil, Nat.reduceAdd, Nat.reduceSub, Array.replicate_succ, Array.replicate_zero, List.push_toArray, List.append_toArray, List.nil_append, List.cons_append]
  gi_wp2
  go_ret
  exact ⟨rfl, rfl⟩

def KeepB (Bn : Nat) (A B : World) : Prop := B.heap[Bn]? = A.heap[Bn]?
theorem KeepB.trans {Bn : Nat} {A B C : World} (h1 : KeepB Bn A B) (h2 : KeepB Bn B C) : KeepB Bn A C := Eq.trans h2 h1
theorem KeepB.refl (Bn : Nat) (A : World) : KeepB Bn A A := rfl
theorem KeepB.put {Bn n : Nat} (h : Bn < n) (W : World) (l : Nat) (o o' : Obj) (hl : n ≤ l) (_ : W.heap[l]? = some o) (_ : o.isCells = false) (_ : o.isWalk = false) : KeepB Bn W (W.putObj l o') := World.putObj_heap_other (by omega)

theorem KeepB.of_below {Bn : Nat} {A B : World} (h : Below A.heap.size A B) (hB : Bn < A.heap.size) : KeepB Bn A B := h.block Bn hB
theorem KeepB.set {Bn : Nat} {A : World} (a : Addr) (v : Value) (h : Bn ≠ a.block) : KeepB Bn A (A.setCell a v) := Below.heap_setCell A a v Bn h
theorem others_below {A B : World} (h : Below A.heap.size A B) : KeepsOthers A B := ⟨h.size, fun k _ hk _ => (h.block k (Array.getElem?_eq_some_iff.1 hk).1).trans hk⟩

abbrev Span (s : ByteArray) := { x : Nat × Nat // x.1 ≤ x.2 ∧ x.2 ≤ s.size }
def encSpan (s : ByteArray) (x : Span s) : Array Value := #[.int .i64 (x.1.1 : Int), .string (s.extract x.1.1 x.1.2)]

set_option maxRecDepth 100000 in
set_option maxHeartbeats 1000000 in
/-- The iterator. -/
theorem parts1_in (s : ByteArray) (hs : s.size ≤ 4611686018427387903) (n : Nat) (hn : 1 ≤ n) (l Bn : Nat) (J Jx : List (Span s) → World → Prop)
    (hY : ∀ pre x W, J pre W → pre.length < (parts 0 s.data.toList).length → YieldAt Fence.wide (n - 1) Try.prog l (encSpan s x) W fun e W' =>
      (e = .returned (.bool true) ∧ J (pre ++ [x]) W' ∧ KeepB Bn W W') ∨ (e = .returned (.bool false) ∧ Jx (pre ++ [x]) W'))
    (W : World) (hBn : Boxed W Bn 9 (.string s)) (h0 : J [] W) :
    CallsIn Fence.wide n Try.prog 42 #[.func (.yield l) #[] #[], .pointer (some ⟨Bn, 0, none⟩)] W fun e W' => (∃ v, e = .returned v) ∧
      ((∃ ys : List (Span s), ys.map (·.1) = spans 0 s.data.toList ∧ J ys W') ∨ (∃ pre : List (Span s), pre.map (·.1) <+: spans 0 s.data.toList ∧ Jx pre W')) := by
  have hI : ∀ (W : World) (k : Nat), Calls Try.prog 43 #[.string (s.extract k s.size), .int .u8 47] W fun e w' => e = .returned (.int .i64 (Lib.indexByte (s.data.toList.drop k) 47)) ∧ W = w' := fun W k => by
    have := Try.strings_IndexByte (s.extract k s.size) 47 W
    rw [extract_to_end] at this
    exact this.mono fun e w' ⟨h1, h2⟩ => ⟨h1, h2.symm⟩
  refine callsIn_of_wp Try.func42 rfl trivial ?_ rfl
  simp only [Try.ntmps42, List.size_toArray, List.length_cons, List.length_nil, Nat.reduceAdd, Nat.reduceSub, Array.replicate_succ, Array.replicate_zero, List.push_toArray, List.append_toArray, List.nil_append, List.cons_append]
  gi_wp2
  gi_loopw [3] (fun p wr => ∃ (pre : List (Span s)) (k : Nat), p = .int .i64 (k : Int) ∧ k ≤ s.size ∧ Boxed wr Bn 9 (.string s) ∧ pre.map (·.1) ++ spans k (s.data.toList.drop k) = spans 0 s.data.toList ∧ J pre wr)
    (fun p _ => s.size + 1 - (intOf p).toNat)
  case atStart => exact ⟨[], 0, rfl, Nat.zero_le _, hBn, by simp, h0⟩
  case round =>
    obtain ⟨pre, k, rfl, hk, hbx, hsp, hJ⟩ := hrel
    have hc := hbx.cell
    have hlen : s.size = s.data.toList.length := Lib.size_eq s
    have hpl : pre.length < (parts 0 s.data.toList).length := by
      rw [← spans_length, ← hsp]
      have : spans k (s.data.toList.drop k) ≠ [] := by simp [spans, parts_ne]
      have := List.length_pos_iff.2 this
      simp; omega
    have HSP := Lib.hid hsp; clear hsp
    have HLEN := Lib.hid hlen; clear hlen
    have HPL := Lib.hid hpl; clear hpl
    rcases Int.lt_or_le (Lib.indexByte (s.data.toList.drop k) 47) 0 with hi | hi
    · have hi1 : Lib.indexByte (s.data.toList.drop k) 47 = -1 := by have := Lib.indexByte_ge (s.data.toList.drop k) 47; omega
      have hsn := spans_none _ k hi1
      have HI : ∀ (W : World), Calls Try.prog 43 #[.string (s.extract k s.size), .int .u8 47] W fun e w' => e = .returned (.int .i64 (-1)) ∧ W = w' := fun W => by
        have := hI W k; rwa [hi1] at this
      have HSN := Lib.hid hsn; clear hsn hi hi1 hI
      obtain ⟨fn, tmps, assign, body, hy, hR⟩ := hY pre ⟨(k, s.size), hk, Nat.le_refl _⟩ wr hJ HPL.out
      simp only [encSpan] at hy
      gi_wp2_with (refine ⟨trivial, ?_⟩; gi_at_call 43; refine (callsIn_wide.2 (HI _)).mono ?_; rintro e w' ⟨rfl, rfl⟩)
      refine hR.mono ?_
      rintro e W3 (⟨rfl, hJ3, hk3⟩ | ⟨rfl, hJx3⟩)
      · gi_wp2
        refine bodyPost_ret (results_none rfl _ _ _) rfl ?_
        refine ⟨⟨_, rfl⟩, .inl ⟨_, ?_, hJ3⟩⟩
        rw [← HSP.out, HSN.out]; simp; omega
      · gi_wp2
        refine bodyPost_ret (results_none rfl _ _ _) rfl ?_
        refine ⟨⟨_, rfl⟩, .inr ⟨_, ?_, hJx3⟩⟩
        rw [← HSP.out, HSN.out]; simp; omega
    · obtain ⟨m, hm⟩ := Int.eq_ofNat_of_zero_le hi
      obtain ⟨hlt, hsn⟩ := spans_some _ k m hm
      have hmk : k + m < s.size := by rw [List.length_drop] at hlt; have := HLEN.out; omega
      have HI : ∀ (W : World), Calls Try.prog 43 #[.string (s.extract k s.size), .int .u8 47] W fun e w' => e = .returned (.int .i64 (m : Int)) ∧ W = w' := fun W => by
        have := hI W k; rwa [hm] at this
      have HSN := Lib.hid hsn; clear hsn hi hm hI hlt
      obtain ⟨fn, tmps, assign, body, hy, hR⟩ := hY pre ⟨(k, k + m), by simp, by simp; omega⟩ wr hJ HPL.out
      simp only [encSpan] at hy
      have b0 : decide ((m : Int) < 0) = false := decide_eq_false (by omega)
      gi_wp2_with (refine ⟨trivial, ?_⟩; gi_at_call 43; refine (callsIn_wide.2 (HI _)).mono ?_; rintro e w' ⟨rfl, rfl⟩)
      refine hR.mono ?_
      rintro e W3 (⟨rfl, hJ3, hk3⟩ | ⟨rfl, hJx3⟩)
      · have hbx3 : Boxed W3 Bn 9 (.string s) := Eq.trans hk3 hbx
        gi_wp2
        go_roundw
        case rel =>
          refine ⟨_, k + m + 1, by first | rfl | (simp; omega) | go_num, by omega, hbx3, ?_, hJ3⟩
          rw [← HSP.out, HSN.out, List.drop_drop]; simp [Nat.add_assoc]
        case measure => simp [intOf]; omega
      · gi_wp2
        refine bodyPost_ret (results_none rfl _ _ _) rfl ?_
        refine ⟨⟨_, rfl⟩, .inr ⟨_, ?_, hJx3⟩⟩
        rw [← HSP.out, HSN.out]; simp
end Go.Proofs.Ytboefcnghngoaaa
