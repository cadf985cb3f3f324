/- dirs.right in plain Lean. -/
import Derived.Test.YtcklpecjcebekaaPAllx7
namespace Go.Proofs.Ytcklpecjcebekaa.PAll
open Go.RowKit Go.Lib Go.Proofs.YtcklpecjcebekaaW.PrintWords Go.Proofs.YtcklpecjcebekaaW.PrintLast Go.Proofs.YtcklpecjcebekaaW.PrintMore Go.Proofs.Ytcklpecjcebekaa.Sp

theorem Ev.round {α : Type} {g : Nat → Option α} {r : α} (f : Nat → Option α) (h : ∀ k, g (k + 1) = f k) (k : Ev f r) : Ev g r := Ev.step h k
theorem Ev.some {α : Type} {g : Nat → Option α} {r : α} (h : ∀ k, g k = Option.some r) : Ev g r := ⟨0, fun k _ => h k⟩
theorem wrap_up {i n : Nat} (h : i < n) (hn : n ≤ 9223372036854775807) : wrap64 ((i : Int) + 1) = ((i + 1 : Nat) : Int) := by unfold wrap64; omega

def okInode (n : Int) : Bool := decide (0 ≤ n) && decide (n ≤ 65535)
def rightFrom (last : List UInt8) : List S37 → Bool
  | [] => true
  | x :: r => isName x.f0.data.toList && okInode x.f1 && Op.bytesLess last x.f0.toList && rightFrom x.f0.toList r
def rightL (l : List S37) : Bool := rightFrom [] l && decide (l.length ≤ 256)

theorem rd_get (l : List S37) (i : Nat) (h : i < l.length) : rd_T37 l (i : Int) = l[i] := by simp [rd_T37, List.getD_eq_getElem?_getD, h]

theorem right_l0 (l : List S37) (hl : l.length ≤ 9223372036854775807) : ∀ (d i : Nat) (last : ByteArray), l.length - i = d → i ≤ l.length →
    Ev (fun k => dirs_right.l0 k l last l (l.length : Int) (i : Int)) (rightFrom last.toList (l.drop i) && decide (l.length ≤ 256)) := by
  intro d
  induction d with
  | zero =>
    intro i last hd hi
    have hi' : i = l.length := by omega
    rw [hi', List.drop_length]
    refine Ev.round (fun _ => some (decide ((l.length : Int) ≤ 256))) (fun k => ?_) ?_
    · simp only [dirs_right.l0]; rw [if_neg (by omega)]
    · refine Ev.some fun k => ?_
      simp only [rightFrom, Bool.true_and]
      congr 1
      simp [show ((l.length : Int) ≤ 256) ↔ l.length ≤ 256 by omega]
  | succ d ih =>
    intro i last hd hi
    have hlt : i < l.length := by omega
    rw [List.drop_eq_getElem_cons hlt]
    have hrd := rd_get l i hlt
    obtain ⟨x, hx⟩ : ∃ x, x = l[i] := ⟨_, rfl⟩
    rw [← hx] at hrd ⊢
    simp only [rightFrom]
    have hw := wrap_up hlt hl
    have key : ∀ b : Bool, (isName x.f0.data.toList && okInode x.f1 && Op.bytesLess last.toList x.f0.toList) = b → Ev (fun k => dirs_right.l0 k l last l (l.length : Int) (i : Int)) (b && rightFrom x.f0.toList (l.drop (i + 1)) && decide (l.length ≤ 256)) := by
      intro b hb
      cases b with
      | true =>
        simp only [Bool.and_eq_true] at hb
        refine Ev.round (fun k => dirs_right.l0 k l x.f0 l (l.length : Int) (wrap64 ((i : Int) + 1))) (fun k => ?_) ?_
        · simp only [dirs_right.l0]
          have hn : okInode x.f1 = true := hb.1.2
          simp only [okInode, Bool.and_eq_true, decide_eq_true_eq] at hn
          rw [if_pos (by omega), if_pos (by omega), if_pos (by omega), hrd]
          simp only [dirs_Check.f, hb.1.1, if_true, Option.bind_some, dirs_numbered.f]
          rw [if_pos (by omega)]
          simp only [Option.bind_some, decide_eq_true hn.2, if_true]
          rw [if_pos hb.2]
        · rw [hw, Bool.true_and]
          exact ih (i + 1) x.f0 (by omega) (by omega)
      | false =>
        rw [Bool.false_and, Bool.false_and]
        refine Ev.round (fun _ => some false) (fun k => ?_) (Ev.now _)
        simp only [dirs_right.l0]
        rw [if_pos (by omega), if_pos (by omega), if_pos (by omega), hrd]
        cases h1 : isName x.f0.data.toList with
        | false => simp [dirs_Check.f, h1]
        | true =>
          simp only [dirs_Check.f, h1, if_true, Option.bind_some, dirs_numbered.f]
          by_cases h2 : x.f1 ≥ 0
          · rw [if_pos h2]
            simp only [Option.bind_some]
            by_cases h3 : x.f1 ≤ 65535
            · rw [if_pos (by simpa using h3)]
              have h4 : Op.bytesLess last.toList x.f0.toList = false := by
                have ho : okInode x.f1 = true := by simp [okInode, h3]; omega
                rw [h1, ho] at hb; simpa using hb
              rw [if_neg (by simp [h4])]
            · rw [if_neg (by simpa using h3)]
          · rw [if_neg h2]; simp
    have := key _ rfl
    exact this
theorem right_f (l : List S37) (hl : l.length ≤ 9223372036854775807) : Ev (fun k => dirs_right.f k l) (rightL l) := by
  have := right_l0 l hl l.length 0 ⟨#[]⟩ (by omega) (by omega)
  rw [List.drop_zero, show (⟨#[]⟩ : ByteArray).toList = [] by rw [toList_data]] at this
  exact this
#print axioms right_f
end Go.Proofs.Ytcklpecjcebekaa.PAll
