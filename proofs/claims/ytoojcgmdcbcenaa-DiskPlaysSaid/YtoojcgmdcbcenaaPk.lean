/- Which values become sure: one for each sector that was written, rising. No program. -/
import Derived.Test.YtoojcgmdcbcenaaKeys
import Derived.Test.YtoojcgmdcbcenaaM3
namespace Go.Proofs.Ytoojcgmdcbcenaa
set_option linter.unusedVariables false
set_option linter.unusedSimpArgs false
set_option maxRecDepth 100000

/-- One value for each sector: of the j-th one that was written, the one at pk j (how often it was written). -/
def chosen (pk : Nat → Nat → Nat) : Nat → List (List Sec) → List Sec
  | _, [] => []
  | j, l :: r => if l.length < 2 then headOf l :: chosen pk j r else l.getD (pk j (l.length - 1)) [] :: chosen pk (j + 1) r
def upto (pk : Nat → Nat → Nat) (t : Nat) : Nat → Nat → Nat := fun j m => if j < t then pk j m else 0
theorem chosen_length (pk : Nat → Nat → Nat) : ∀ (l : List (List Sec)) (j : Nat), (chosen pk j l).length = l.length
  | [], _ => rfl
  | l :: r, j => by unfold chosen; split <;> simp [chosen_length pk r]
theorem chosen_congr {pk pk' : Nat → Nat → Nat} : ∀ (l : List (List Sec)) (j : Nat), (∀ i m, j ≤ i → pk i m = pk' i m) → chosen pk j l = chosen pk' j l
  | [], _, _ => rfl
  | l :: r, j, h => by
    unfold chosen
    split
    · rw [chosen_congr r j h]
    · rw [h j _ (Nat.le_refl _), chosen_congr r (j + 1) fun i m hi => h i m (by omega)]
theorem chosen_none {pk : Nat → Nat → Nat} : ∀ (l : List (List Sec)) (j : Nat), (∀ i m, j ≤ i → pk i m = 0) → chosen pk j l = l.map headOf
  | [], _, _ => rfl
  | l :: r, j, h => by
    unfold chosen
    split
    · rw [chosen_none r j h]; rfl
    · rw [h j _ (Nat.le_refl _), chosen_none r (j + 1) fun i m hi => h i m (by omega), ← headOf_get]; rfl
theorem pend_cons (l : List Sec) (r : List (List Sec)) : pend (l :: r) = (if 1 < l.length then [0] else []) ++ (pend r).map (· + 1) := by
  unfold pend
  rw [List.length_cons, List.range_succ_eq_map, List.filter_cons]
  have e : (List.map Nat.succ (List.range r.length)).filter (fun i => decide (1 < ((l :: r).getD i []).length)) = ((List.range r.length).filter fun i => decide (1 < (r.getD i []).length)).map (· + 1) := by
    rw [List.filter_map]
    rfl
  rw [e]
  simp only [List.getD_cons_zero, decide_eq_true_eq]
  split <;> rfl
theorem chosen_step (pk : Nat → Nat → Nat) : ∀ (vals : List (List Sec)) (j t : Nat) (ht : t < (pend vals).length),
    chosen (upto pk (j + t + 1)) j vals = (chosen (upto pk (j + t)) j vals).set (pend vals)[t] ((vals.getD (pend vals)[t] []).getD (pk (j + t) ((vals.getD (pend vals)[t] []).length - 1)) [])
  | [], j, t, ht => absurd ht (by simp [pend])
  | l :: r, j, t, ht => by
    have hp := pend_cons l r
    by_cases hl : 1 < l.length
    · rw [if_pos hl] at hp
      have hl2 : ¬ l.length < 2 := by omega
      cases t with
      | zero =>
        have e0 : (pend (l :: r))[0] = 0 := by simp [hp]
        simp only [e0, List.getD_cons_zero, Nat.add_zero]
        unfold chosen
        rw [if_neg hl2, if_neg hl2, List.set_cons_zero]
        have e1 : upto pk (j + 1) j (l.length - 1) = pk j (l.length - 1) := by simp [upto]
        rw [e1]
        congr 1
        exact chosen_congr r (j + 1) fun i m hi => by simp only [upto]; rw [if_neg (by omega), if_neg (by omega)]
      | succ t =>
        have ht' : t < (pend r).length := by rw [hp] at ht; simpa using ht
        have e0 : (pend (l :: r))[t + 1] = (pend r)[t] + 1 := by simp [hp]
        have ih := chosen_step pk r (j + 1) t ht'
        have ea : j + (t + 1) = j + 1 + t := by omega
        simp only [e0, ea, List.getD_cons_succ]
        rw [show chosen (upto pk (j + 1 + t + 1)) j (l :: r) = l.getD (upto pk (j + 1 + t + 1) j (l.length - 1)) [] :: chosen (upto pk (j + 1 + t + 1)) (j + 1) r from by rw [chosen]; rw [if_neg hl2],
          show chosen (upto pk (j + 1 + t)) j (l :: r) = l.getD (upto pk (j + 1 + t) j (l.length - 1)) [] :: chosen (upto pk (j + 1 + t)) (j + 1) r from by rw [chosen]; rw [if_neg hl2], List.set_cons_succ, ih]
        congr 2
        simp only [upto]; rw [if_pos (by omega), if_pos (by omega)]
    · rw [if_neg hl] at hp
      have hl2 : l.length < 2 := by omega
      have ht' : t < (pend r).length := by rw [hp] at ht; simpa using ht
      have e0 : (pend (l :: r))[t] = (pend r)[t] + 1 := by simp [hp]
      have ih := chosen_step pk r j t ht'
      simp only [e0, List.getD_cons_succ]
      rw [show chosen (upto pk (j + t + 1)) j (l :: r) = headOf l :: chosen (upto pk (j + t + 1)) j r from by rw [chosen]; rw [if_pos hl2],
        show chosen (upto pk (j + t)) j (l :: r) = headOf l :: chosen (upto pk (j + t)) j r from by rw [chosen]; rw [if_pos hl2], List.set_cons_succ, ih]
theorem chosen_all (pk : Nat → Nat → Nat) : ∀ (vals : List (List Sec)) (j : Nat), chosen (upto pk (j + (pend vals).length)) j vals = chosen pk j vals
  | [], _ => rfl
  | l :: r, j => by
    have hp := pend_cons l r
    by_cases hl : 1 < l.length
    · rw [if_pos hl] at hp
      have hl2 : ¬ l.length < 2 := by omega
      have e : (pend (l :: r)).length = (pend r).length + 1 := by rw [hp]; simp
      rw [e, show j + ((pend r).length + 1) = j + 1 + (pend r).length by omega]
      unfold chosen
      rw [if_neg hl2, if_neg hl2, chosen_all pk r (j + 1)]
      congr 2
      simp only [upto]; rw [if_pos (by omega)]
    · rw [if_neg hl] at hp
      have hl2 : l.length < 2 := by omega
      have e : (pend (l :: r)).length = (pend r).length := by rw [hp]; simp
      rw [e]
      unfold chosen
      rw [if_pos hl2, if_pos hl2, chosen_all pk r j]
theorem chosen_zero (pk : Nat → Nat → Nat) (vals : List (List Sec)) : chosen (upto pk 0) 0 vals = vals.map headOf :=
  chosen_none vals 0 fun i m _ => by simp [upto]
theorem chosen_sync : ∀ (vals : List (List Sec)) (j : Nat), (∀ l ∈ vals, l ≠ []) → chosen (fun _ m => m) j vals = vals.map lastOf
  | [], _, _ => rfl
  | l :: r, j, h => by
    have ih := fun j => chosen_sync r j fun x hx => h x (by simp [hx])
    unfold chosen
    split
    · rw [ih, List.map_cons]
      congr 1
      have := List.length_pos_iff.2 (h l (by simp))
      rw [headOf_get, lastOf_get, show l.length - 1 = 0 by omega]
    · rw [ih, List.map_cons, ← lastOf_get]
theorem chosen_crash (picks : List Int) : ∀ (vals : List (List Sec)) (j : Nat), (∀ l ∈ vals, l ≠ []) → Dsk.crashed picks j vals = (chosen (fun j m => Dsk.pick picks j (m + 1)) j vals).map fun s => [s]
  | [], _, _ => rfl
  | l :: r, j, h => by
    have ih := fun j => chosen_crash picks r j fun x hx => h x (by simp [hx])
    have := List.length_pos_iff.2 (h l (by simp))
    unfold chosen Dsk.crashed
    split
    · rw [ih, List.map_cons]
      congr 1
      cases l with
      | nil => simp at this
      | cons a t =>
        rename_i h2
        have : t = [] := List.eq_nil_of_length_eq_zero (by rw [List.length_cons] at h2; omega)
        rw [this]; rfl
    · rw [ih, List.map_cons, show l.length - 1 + 1 = l.length by omega]
theorem chosen_mem {pk : Nat → Nat → Nat} {p : Sec → Prop} (hpk : ∀ j m, pk j m ≤ m) : ∀ (vals : List (List Sec)) (j : Nat), (∀ l ∈ vals, l ≠ [] ∧ ∀ s ∈ l, p s) → ∀ s ∈ chosen pk j vals, p s
  | [], _, _ => fun s hs => by cases hs
  | l :: r, j, h => by
    have hl := h l (by simp)
    have hr := fun j => chosen_mem hpk r j fun x hx => h x (by simp [hx])
    have hpos := List.length_pos_iff.2 hl.1
    unfold chosen
    intro s hs
    split at hs
    · rcases List.mem_cons.1 hs with rfl | hs
      · exact hl.2 _ (headOf_mem hl.1)
      · exact hr _ s hs
    · rcases List.mem_cons.1 hs with rfl | hs
      · have := hpk j (l.length - 1)
        rw [List.getD_eq_getElem?_getD, List.getElem?_eq_getElem (show pk j (l.length - 1) < l.length by omega)]
        exact hl.2 _ (List.getElem_mem _)
      · exact hr _ s hs
theorem flatten_set {s : Sec} (hs : s.length = 256) : ∀ (l : List Sec) (i : Nat), (∀ x ∈ l, x.length = 256) → i < l.length → (l.set i s).flatten = l.flatten.take (i * 256) ++ s ++ l.flatten.drop (i * 256 + 256)
  | [], i, _, h => absurd h (by simp)
  | a :: r, 0, h, _ => by
    have := h a (by simp)
    have hd : (a ++ r.flatten).drop (0 * 256 + 256) = r.flatten := List.drop_left' (by omega)
    have ht : (a ++ r.flatten).take (0 * 256) = [] := by rw [Nat.zero_mul]; rfl
    rw [List.set_cons_zero, List.flatten_cons, List.flatten_cons, hd, ht]; rfl
  | a :: r, i + 1, h, hi => by
    have ha := h a (by simp)
    have ih := flatten_set hs r i (fun x hx => h x (by simp [hx])) (by simpa using hi)
    have e : (i + 1) * 256 = a.length + i * 256 := by omega
    have e2 : (i + 1) * 256 + 256 = a.length + (i * 256 + 256) := by omega
    rw [List.set_cons_succ, List.flatten_cons, List.flatten_cons, ih, e2, e, List.take_length_add_append, List.drop_length_add_append]
    simp [List.append_assoc]
theorem flatten_len : ∀ {l : List Sec}, (∀ x ∈ l, x.length = 256) → l.flatten.length = l.length * 256
  | [], _ => rfl
  | a :: r, h => by
    rw [List.flatten_cons, List.length_append, h a (by simp), flatten_len (l := r) (fun x hx => h x (by simp [hx])), List.length_cons]; omega
theorem flatten_part : ∀ {l : List Sec} (i : Nat), (∀ x ∈ l, x.length = 256) → i < l.length → (l.flatten.drop (i * 256)).take 256 = l.getD i []
  | [], i, _, h => absurd h (by simp)
  | a :: r, 0, h, _ => by
    have := h a (by simp)
    simp only [List.flatten_cons, Nat.zero_mul, List.drop_zero, List.getD_cons_zero]
    rw [List.take_append_of_le_length (by omega), List.take_of_length_le (by omega)]
  | a :: r, i + 1, h, hi => by
    have h1 := h a (by simp)
    have e : (i + 1) * 256 = 256 + i * 256 := by omega
    rw [List.flatten_cons, e, ← List.drop_drop, List.drop_left' h1, List.getD_cons_succ]
    exact flatten_part i (fun x hx => h x (by simp [hx])) (by simpa using hi)
theorem chosen_at (pk : Nat → Nat → Nat) : ∀ (vals : List (List Sec)) (j t : Nat) (ht : t < (pend vals).length), (chosen (upto pk (j + t)) j vals).getD (pend vals)[t] [] = headOf (vals.getD (pend vals)[t] [])
  | [], j, t, ht => absurd ht (by simp [pend])
  | l :: r, j, t, ht => by
    have hp := pend_cons l r
    by_cases hl : 1 < l.length
    · rw [if_pos hl] at hp
      have hl2 : ¬ l.length < 2 := by omega
      cases t with
      | zero =>
        have e0 : (pend (l :: r))[0] = 0 := by simp [hp]
        simp only [e0, List.getD_cons_zero, Nat.add_zero]
        rw [chosen, if_neg hl2, List.getD_cons_zero]
        have e1 : upto pk j j (l.length - 1) = 0 := by simp [upto]
        rw [e1, headOf_get]
      | succ t =>
        have ht' : t < (pend r).length := by rw [hp] at ht; simpa using ht
        have e0 : (pend (l :: r))[t + 1] = (pend r)[t] + 1 := by simp [hp]
        have ih := chosen_at pk r (j + 1) t ht'
        have ea : j + (t + 1) = j + 1 + t := by omega
        simp only [e0, ea]
        rw [chosen, if_neg hl2, List.getD_cons_succ, List.getD_cons_succ, ih]
    · rw [if_neg hl] at hp
      have hl2 : l.length < 2 := by omega
      have ht' : t < (pend r).length := by rw [hp] at ht; simpa using ht
      have e0 : (pend (l :: r))[t] = (pend r)[t] + 1 := by simp [hp]
      have ih := chosen_at pk r j t ht'
      simp only [e0]
      rw [chosen, if_pos hl2, List.getD_cons_succ, List.getD_cons_succ, ih]
end Go.Proofs.Ytoojcgmdcbcenaa
