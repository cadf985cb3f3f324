/- dirs.Remove: entries without one. -/
import Derived.Test.YtcklpecjcebekaaHDelete
import Derived.Test.YtcklpecjcebekaaHClone
import Derived.Test.YtcklpecjcebekaaHPlace
namespace Go.Proofs.Ytcklpecjcebekaa.PAll
open Go.RowKit Go.Shelf Go.Lib Go.Proofs.YtcklpecjcebekaaW.PrintWords Go.Proofs.YtcklpecjcebekaaW.PrintLast Go.Proofs.YtcklpecjcebekaaW.PrintMore Go.Proofs.Ytcklpecjcebekaa.Sp
attribute [local go_sem] Oper.semAt_some
set_option linter.unusedVariables false
set_option linter.unusedSimpArgs false

theorem delete_calls (w0 w : World) (v : Value) (l : List S37) (k : Nat) (hB : Below w0.heap.size w0 w) (hR : Kd.R k37 37 w w0.heap.size (fun _ => True) v l) (hk : k < l.length) :
    Calls Try.prog 32 #[v, .int .i64 (k : Int), .int .i64 ((k : Int) + 1)] w fun e w' => ∃ v1, e = .returned v1 ∧ Kd.R k37 37 w' w0.heap.size (fun _ => True) v1 (l.take k ++ l.drop (k + 1)) ∧ Below w0.heap.size w0 w' := by
  have hown := own_of_R hR
  rcases hown.2 with ⟨rfl, h0⟩ | ⟨g, cap, cur, rfl, h1, h2, h3, h4, h5, h6⟩
  · have : l.length = 0 := h0
    omega
  · refine (delete_row w g cap cur l k h2 hk h3 h4 h5 h6).mono ?_
    rintro e w' ⟨rfl, cur', rfl, hs, ht⟩
    have hlen : (l.take k ++ l.drop (k + 1)).length = l.length - 1 := by simp; omega
    exact ⟨_, rfl, R_of_own ⟨by rw [cellsOf_length], .inr ⟨g, cap, cur', by rw [hlen], h1, setRow_heap w.drew g cur cur' 37 _ h2, by rw [hlen]; omega, h4, hs, by rw [hlen]; exact ht⟩⟩, below_setRow (below_drew1 hB) h1 _⟩

def dirs_Remove.f (l0 : List S37) (a1 : ByteArray) : Option (List S37 × Int) :=
  if isName a1.data.toList = false then some ([], 71) else
  let i := idxL (fun x => x.f0.toList == a1.toList) l0
  if i < 0 then some ([], 5) else if 5864062014804 < l0.length then none else some (l0.take i.toNat ++ l0.drop (i.toNat + 1), 0)

theorem idx_lt {p : S37 → Bool} {l : List S37} (h : ¬ idxL p l < 0) : (idxL p l).toNat < l.length ∧ ((idxL p l).toNat : Int) = idxL p l := by
  unfold idxL at h ⊢
  cases h' : l.findIdx? p with
  | none => rw [h'] at h; simp at h
  | some i =>
    have hi := (List.findIdx?_eq_some_iff_getElem.1 h').1
    simp; omega

set_option maxHeartbeats 4000000 in
set_option maxRecDepth 100000 in
theorem dirs_Remove.calls (A0 : Option Addr) (c0 : Nat) (l0 : List (S37)) (a1 : ByteArray) (r1 : List (S37)) (r2 : Int) (w : World) (hr0 : Kd.C k37 w A0 l0.length l0) (hc0 : l0.length ≤ c0) (h : dirs_Remove.f l0 a1 = some (r1, r2)) :
    Calls Try.prog 11 #[.slice A0 l0.length c0, .string a1] w fun e w' => ∃ v0_ : Value, e = .returned (.tuple #[v0_, .int .i64 r2]) ∧ Kd.R k37 37 w' w.heap.size (fun _ => True) v0_ r1 ∧ Below w.heap.size w w' := by
  have HB := Below.refl w.heap.size w
  obtain ⟨pi, pe, hpl⟩ : ∃ pi pe, dirs_place.f l0 a1 = some (pi, pe) := by
    unfold dirs_place.f; dsimp only; split; exact ⟨_, _, rfl⟩; split <;> exact ⟨_, _, rfl⟩
  have cP : ∀ W, Below w.heap.size w W → Calls Try.prog 26 #[.slice A0 l0.length c0, .string a1] W fun e w' => e = .returned (.tuple #[.int .i64 pi, .int .i64 pe]) ∧ Below W.heap.size W w' := fun W hW => dirs_place.calls A0 c0 l0 a1 pi pe W (Kd.C_below hr0 hW) hc0 hpl
  have hcase : (pe ≠ 0 ∧ r1 = [] ∧ r2 = pe) ∨ (pe = 0 ∧ ∃ k : Nat, pi = (k : Int) ∧ k < l0.length ∧ l0.length ≤ 5864062014804 ∧ r1 = l0.take k ++ l0.drop (k + 1) ∧ r2 = 0) := by
    unfold dirs_Remove.f at h
    unfold dirs_place.f at hpl
    dsimp only at hpl h
    by_cases c1 : isName a1.data.toList = false
    · rw [if_pos c1] at h hpl; simp at h hpl; exact .inl ⟨by rw [← hpl.2]; decide, h.1, by rw [← h.2, ← hpl.2]⟩
    · rw [if_neg c1] at h hpl
      by_cases c : idxL (fun x => x.f0.toList == a1.toList) l0 < 0
      · rw [if_pos c] at h hpl; simp at h hpl; exact .inl ⟨by rw [← hpl.2]; decide, h.1, by rw [← h.2, ← hpl.2]⟩
      · rw [if_neg c] at h hpl
        by_cases c3 : 5864062014804 < l0.length
        · rw [if_pos c3] at h; cases h
        · rw [if_neg c3] at h
          simp only [Option.some.injEq, Prod.mk.injEq] at h hpl
          obtain ⟨i1, i2⟩ := idx_lt c
          exact .inr ⟨hpl.2.symm, _, by rw [i2]; exact hpl.1.symm, i1, by omega, h.1.symm, h.2.symm⟩
  have HR0 := Aside0.mk hr0
  clear h hpl hr0
  rcases hcase with ⟨hne, rfl, rfl⟩ | ⟨rfl, k, rfl, hk, hl, hr1, rfl⟩
  · have b1 : (r2 == (0 : Int)) = false := by simpa using hne
    have b2 : (r2 != (0 : Int)) = true := by simpa using hne
    clear hne
    go_enter Try.func11, Try.ntmps11
    go_wp2_with fail
    refine (cP _ HB).mono ?_
    rintro e w2 ⟨rfl, hb⟩
    go_wp2
    go_ret2
    exact ⟨_, rfl, Kd.R_nil _ _ _ _ _, hb⟩
  · have del : ∀ (W5 : World) (v : Value), Below w.heap.size w W5 → Kd.R k37 37 W5 w.heap.size (fun _ => True) v l0 → Calls Try.prog 32 #[v, .int .i64 (k : Int), .int .i64 ((k : Int) + 1)] W5 fun e w' =>
        ∃ v1, e = .returned v1 ∧ Kd.R k37 37 w' w.heap.size (fun _ => True) v1 r1 ∧ Below w.heap.size w w' := fun W5 v hb hR => by
      rw [hr1]; exact delete_calls w W5 v l0 k hb hR hk
    have HL := Aside0.mk hl
    have q1 : IntKind.i64.wrap ((k : Int) + 1) = (k : Int) + 1 := by rw [IntKind.wrap_i64]; omega
    have mixed : Try.prog.follows .mixedOrders = true := by kernel_rfl
    clear hr1 hl hk
    go_enter Try.func11, Try.ntmps11
    go_wp2_with fail
    refine (cP _ HB).mono ?_
    rintro e w2 ⟨rfl, hb⟩
    go_wp2_with fail
    refine (clone_calls A0 c0 l0 _ (Kd.C_below HR0.out hb) hc0 (by have := HL.out; omega)).mono ?_
    rintro e w5 ⟨v, rfl, hv, hb5⟩
    have HB5 := hb.trans (hb5.mono hb.size)
    have HV := Kd.R_lower hv hb.size
    clear hv
    go_wp2_with fail
    refine (del _ _ HB5 HV).mono ?_
    rintro e w6 ⟨v1, rfl, ho, hb6⟩
    go_wp2
    go_ret2
    exact ⟨_, rfl, ho, hb6⟩
end Go.Proofs.Ytcklpecjcebekaa.PAll
