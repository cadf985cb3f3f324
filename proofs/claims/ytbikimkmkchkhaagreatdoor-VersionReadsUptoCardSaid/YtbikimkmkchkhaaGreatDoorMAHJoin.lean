/- strings.Join in the print's form. -/
import Derived.Test.YtbikimkmkchkhaaGreatDoorMA8
namespace Go.Proofs.YtbikimkmkchkhaaGreatDoor.PAll
open Go.RowKit Go.Lib Go.Shelf Go.Proofs.YtbikimkmkchkhaaGreatDoor Go.Proofs.YtbikimkmkchkhaaGreatDoorW.PrintWords Go.Proofs.YtbikimkmkchkhaaGreatDoorW.PrintLast Go.Proofs.YtbikimkmkchkhaaGreatDoorW.PrintMore
set_option linter.unusedVariables false
set_option linter.unusedSimpArgs false

def joinS (l : List ByteArray) (sep : ByteArray) : ByteArray := ⟨(Lib.join (l.map (·.data.toList)) sep.data.toList).toArray⟩
def joinFits (l : List ByteArray) (sep : ByteArray) : Bool := decide (l.length ≤ 140737488355328) && decide ((Lib.join (l.map (·.data.toList)) sep.data.toList).length ≤ 140737488355328)
def strings_Join.f (l0 : List ByteArray) (a1 : ByteArray) : Option ByteArray := if joinFits l0 a1 then some (joinS l0 a1) else none
theorem strings_Join.calls (A0 : Option Addr) (c0 : Nat) (l0 : List ByteArray) (a1 : ByteArray) (r : ByteArray) (w : World) (hr0 : Kd.C Kd.string w A0 l0.length l0) (hc0 : l0.length ≤ c0) (h : strings_Join.f l0 a1 = some r) :
    Calls Tryz.prog 19 #[.slice A0 l0.length c0, .string a1] w fun e w' => e = .returned (.string r) ∧ Below w.heap.size w w' := by
  unfold strings_Join.f at h
  split at h
  case isFalse => cases h
  rename_i hf
  obtain rfl := Option.some.inj h
  unfold joinFits at hf
  simp only [Bool.and_eq_true, decide_eq_true_eq] at hf
  rcases Nat.eq_zero_or_pos l0.length with h0 | h0
  · have hn := List.length_eq_zero_iff.1 h0
    subst hn
    refine (Tryz.strings_Join_none A0 c0 a1 w).mono ?_
    rintro e w' ⟨rfl, rfl⟩
    exact ⟨rfl, Below.refl _ _⟩
  · obtain ⟨ad, rfl, hx⟩ := Kd.at_string hr0 0 (by omega) (by omega)
    obtain ⟨bk, o, sp⟩ := ad
    have cell : ∀ j, j < l0.length → w.cell? ((⟨bk, o, sp⟩ : Addr).add j) = some (.string (rdOf ByteArray.empty l0 (j : Int))) := fun j hj => by
      obtain ⟨ad', e, hx'⟩ := Kd.at_string hr0 (j : Int) (by omega) (by omega)
      have := Option.some.inj e
      subst this
      simpa using hx'
    cases sp with
    | some q =>
      have := cell 0 h0
      unfold World.cell? Addr.add at this
      rw [if_pos rfl] at this
      split at this
      · simp at this
      · cases this
    | none =>
      refine Tryz.strings_Join bk o c0 l0 a1 w (fun j x hj => ?_) (World.block_lt_of_cell? w _ (by simpa using hx)) hf.1 hc0 hf.2
      have hjl : j < l0.length := (List.getElem?_eq_some_iff.1 hj).1
      have := cell j hjl
      have e : (⟨bk, o, none⟩ : Addr).add j = ⟨bk, o + j, none⟩ := by
        unfold Addr.add
        split
        · subst_vars; rfl
        · rfl
      rw [e] at this
      rw [this]
      congr 2
      unfold rdOf
      simp only [Int.toNat_natCast]
      rw [List.getD_eq_getElem?_getD, hj]; rfl
end Go.Proofs.YtbikimkmkchkhaaGreatDoor.PAll
