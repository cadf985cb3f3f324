/- dirs.place: where a name stands. -/
import Derived.Test.YtcklpecjcebekaaHIdx
import Derived.Test.YtcklpecjcebekaaHCheck
import Derived.Test.YtcklpecjcebekaaStrOrd
namespace Go.Proofs.Ytcklpecjcebekaa.PAll
open Go.RowKit Go.Shelf Go.Lib Go.Proofs.YtcklpecjcebekaaW.PrintWords Go.Proofs.Ytcklpecjcebekaa.Sp
attribute [local go_sem] Oper.semAt_some

/-- The closure in place: is it that name? -/
theorem is_gives (b : Nat) (s : ByteArray) (x : S37) (W : World) (hb : W.cell? ⟨b, 0, none⟩ = some (.string s)) :
    Calls Try.prog 40 (#[.agg #[.string x.f0, .int .i64 x.f1]] ++ #[.pointer (some ⟨b, 0, none⟩)]) W fun e w' => e = .returned (.bool (x.f0.toList == s.toList)) ∧ Below W.heap.size W w' := by
  have hu37 := Try.underlying37
  have hB := (Below.refl W.heap.size W).alloc (Nat.le_refl _) (.cells #[Value.string x.f0, Value.int IntKind.i64 x.f1] 37)
  have hb2 := (hB.cell (World.block_lt_of_cell? W _ hb)).trans hb
  go_enter Try.func40, Try.ntmps40
  go_wp2
  go_ret
  exact ⟨rfl, hB⟩

def dirs_place.f (l0 : List S37) (a1 : ByteArray) : Option (Int × Int) :=
  if isName a1.data.toList = false then some (0, 71) else
  let i := idxL (fun x => x.f0.toList == a1.toList) l0
  if i < 0 then some (0, 5) else some (i, 0)
theorem dirs_place.calls (A0 : Option Addr) (c0 : Nat) (l0 : List (S37)) (a1 : ByteArray) (r1 : Int) (r2 : Int) (w : World) (hr0 : Kd.C k37 w A0 l0.length l0) (_hc0 : l0.length ≤ c0) (h : dirs_place.f l0 a1 = some (r1, r2)) :
    Calls Try.prog 26 #[.slice A0 l0.length c0, .string a1] w fun e w' => e = .returned (.tuple #[.int .i64 r1, .int .i64 r2]) ∧ Below w.heap.size w w' := by
  have hB := (Below.refl w.heap.size w).alloc (Nat.le_refl _) (.cells #[Value.string a1] 9)
  have hbx : (w.alloc (.cells #[Value.string a1] 9)).cell? ⟨w.heap.size, 0, none⟩ = some (.string a1) := by simp
  have cK : ∀ W, Calls Try.prog 23 #[.string a1] W fun e w' => e = .returned (.int .i64 (if isName a1.data.toList then 0 else 71)) ∧ Below W.heap.size W w' := fun W => dirs_Check.calls a1 _ W rfl
  cases hn : isName a1.data.toList with
  | false =>
    have h' : r1 = 0 ∧ r2 = 71 := by simp [dirs_place.f, hn] at h; exact ⟨h.1.symm, h.2.symm⟩
    obtain ⟨rfl, rfl⟩ := h'
    simp only [hn] at cK
    clear h hn
    go_enter Try.func26, Try.ntmps26
    go_wp2_with fail
    refine (cK _).mono ?_
    rintro e w1 ⟨rfl, hb⟩
    replace hB := hB.trans (hb.mono (by simp))
    go_wp2
    go_ret2
    exact ⟨rfl, hB⟩
  | true =>
    simp only [hn, if_true] at cK
    have cI : ∀ W, Below (w.alloc (.cells #[Value.string a1] 9)).heap.size (w.alloc (.cells #[Value.string a1] 9)) W → Calls Try.prog 28 #[.slice A0 l0.length c0, .func (.func 40) #[] #[.pointer (some ⟨w.heap.size, 0, none⟩)]] W fun e w' => e = .returned (.int .i64 (idxL (fun x => x.f0.toList == a1.toList) l0)) ∧ Below W.heap.size W w' := fun W hW => by
      refine idx_calls 40 _ (enters_of Try.func40 (by kernel_rfl) rfl) _ A0 c0 l0 W (Kd.C_below hr0 (hB.trans (hW.mono (by simp)))) ?_
      intro W' x hW'
      refine is_gives _ _ x W' ?_
      have hW2 := hW.trans (hW'.mono hW.size)
      exact (hW2.cell (World.block_lt_of_cell? _ _ hbx)).trans hbx
    obtain ⟨I, hI⟩ : ∃ I, idxL (fun x => x.f0.toList == a1.toList) l0 = I := ⟨_, rfl⟩
    simp only [hI] at cI
    have hres : (I < 0 ∧ r1 = 0 ∧ r2 = 5) ∨ (¬ I < 0 ∧ r1 = I ∧ r2 = 0) := by
      simp only [dirs_place.f, hn, hI] at h
      by_cases hi : I < 0
      · simp [hi] at h; exact .inl ⟨hi, h.1.symm, h.2.symm⟩
      · simp [hi] at h; exact .inr ⟨hi, h.1.symm, h.2.symm⟩
    clear h hn hI
    rcases hres with ⟨hi, rfl, rfl⟩ | ⟨hi, rfl, rfl⟩
    · have ti : decide (I < 0) = true := decide_eq_true hi
      clear hi
      go_enter Try.func26, Try.ntmps26
      go_wp2_with fail
      refine (cK _).mono ?_
      rintro e w1 ⟨rfl, hb⟩
      have cI' := cI _ hb
      replace hB := hB.trans (hb.mono (by simp))
      go_wp2_with fail
      refine cI'.mono ?_
      rintro e w2 ⟨rfl, hb⟩
      replace hB := bl_trans hB hb
      go_wp2
      go_ret2
      exact ⟨rfl, hB⟩
    · have ti : decide (r1 < 0) = false := decide_eq_false hi
      clear hi
      go_enter Try.func26, Try.ntmps26
      go_wp2_with fail
      refine (cK _).mono ?_
      rintro e w1 ⟨rfl, hb⟩
      have cI' := cI _ hb
      replace hB := hB.trans (hb.mono (by simp))
      go_wp2_with fail
      refine cI'.mono ?_
      rintro e w2 ⟨rfl, hb⟩
      replace hB := bl_trans hB hb
      go_wp2
      go_ret2
      exact ⟨rfl, hB⟩
end Go.Proofs.Ytcklpecjcebekaa.PAll
