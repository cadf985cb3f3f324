/- Texts of this claim, one behind the other: Keys. -/
import Derived.Test.YtfhdiddlloiglaaDoorMA6
import Derived.Test.YtfhdiddlloiglaaDoorMA3
section
/- slices.Sorted(maps.Keys(m)) at the disk's map; maps.Clone; slices.Clone of bytes. -/
namespace Go.Proofs.YtfhdiddlloiglaaDoor
open Go.RowKit Go.Maps Go.Sort Go.Shelf
set_option linter.unusedVariables false
set_option linter.unusedSimpArgs false
set_option maxRecDepth 100000

theorem sorts_at (m : Nat) : AnyZI.SortsIn Tryd.prog Tryd.sortedA_ren Fence.wide m :=
  ⟨fun blk off cap ss W hH hblk hsz => callsIn_wide.2 (AnyM.slices_Sort_int Tryd.sortA blk off cap ss W hH hblk hsz),
   fun p cap W => callsIn_wide.2 (AnyM.slices_Sort_int_none Tryd.sortA p cap W)⟩
theorem keys_calls (mb : Option Nat) (W : World) : Calls Tryd.prog 65 #[.map mb] W fun e w' => e = .returned (.func (.func 84) #[] #[.pointer (some ⟨W.heap.size, 0, none⟩)]) ∧ w' = W.alloc (.cells #[.map mb] 81) :=
  callsIn_wide.1 (AnyZI.keys_in Tryd.keysA Fence.wide 5 trivial rfl mb W)
theorem sorted_calls {b nn : Nat} {D0 : DU} {R : Value → Option (DU × List MemPlace)} {w : World} (hown : w.ownsMap Tryd.prog 3 R b nn D0) (hmax : Maps.size D0 ≤ maxLen) (hbytes : Maps.size D0 * 8 ≤ 140737488355328) :
    Calls Tryd.prog 64 #[.func (.func 84) #[] #[.pointer (some ⟨w.heap.size, 0, none⟩)]] (w.alloc (.cells #[.map (some b)] 81)) fun e w' => ∃ (v : Value) (ss : List Int), e = .returned v ∧ ss.Perm (intKeys D0) ∧
      w'.ownsRow (w.heap.size + 1) 3 1 v ss.length ((ss.mergeSort Go.leI).map (Value.int .i64)) ∧ Below (w.heap.size + 1) (w.alloc (.cells #[.map (some b)] 81)) w' := by
  have hbl := hown.lt
  have hseq : SeqGives Fence.wide 2 Tryd.prog 84 #[.pointer (some ⟨w.heap.size, 0, none⟩)] encZ (fun ss => ss.Perm (intKeys D0)) (Maps.size D0) (w.alloc (.cells #[.map (some b)] 81)) :=
    AnyZI.keys_gives (ρ := Tryd.keysA_ren) { Tryd.keysA with } Fence.wide _ trivial rfl (by omega) w.heap.size b nn D0 _ (by simp) (by simp) (by
      obtain ⟨es, clock, hb, Ft, hs, hD⟩ := hown
      exact ⟨es, clock, (Below.heap_alloc _ _ b hbl).trans hb, Ft, hs, hD⟩)
  have cS := AnyZI.sorted_in Tryd.sortedA Fence.wide 5 trivial trivial trivial trivial rfl (by omega) (sorts_at _) (enters_of Tryd.func83 (by kernel_rfl) rfl) 84 #[.pointer (some ⟨w.heap.size, 0, none⟩)] trivial (enters_of Tryd.func84 (by kernel_rfl) rfl) _ _ hmax hbytes _ hseq
  change CallsIn _ _ Tryd.prog 64 _ _ _ at cS
  refine (callsIn_wide.1 cS).mono ?_
  rintro e w' ⟨v, ss, he, hS, hrow, _, hb⟩
  refine ⟨v, ss, he, hS, ?_, ?_⟩
  · have e1 : (w.alloc (.cells #[.map (some b)] 81)).heap.size = w.heap.size + 1 := by simp
    rw [e1] at hrow
    exact hrow
  · have e1 : (w.alloc (.cells #[.map (some b)] 81)).heap.size = w.heap.size + 1 := by simp
    rw [← e1]; exact hb

/-! ### clear -/
theorem ownsMap_clear {H : Type} {P : Program} {t k e : TypeId} {R : Value → Option (DataW H × List MemPlace)} {w : World} {b n : Nat} {D : DataW H} (h : w.ownsMap P k R b n D) (ht : P.underlying t = some (.map k e)) :
    ∃ w', (∀ ty, (Builtin.clear_ #[t] ty #[.map (some b)]).run P w = .ok (.tuple #[]) w') ∧ w'.ownsMap P k R b 0 (.map []) ∧ w.mapTurned w' b := by
  obtain ⟨es, clock, hb, F, hs, rfl⟩ := h
  refine ⟨ChangeMaps.setBlock w b (.map #[] clock), fun ty => ?_, ⟨#[], clock, ChangeMaps.heap_setBlock_same hb _, ⟨by simp, MapKept.stamped_empty _, by simp⟩, Nat.le_refl _, rfl⟩, ⟨es, clock, #[], clock, hb, rfl⟩⟩
  simp [Builtin.clear_, run_underlying ht, MapKept.run_getObj_map hb, MapKept.run_setObj_map _ hb, Result.andThen, ChangeMaps.setBlock]

/-! ### the map of how often -/
def pend (vals : List (List Sec)) : List Nat := (List.range vals.length).filter fun i => decide (1 < (vals.getD i []).length)
theorem pend_mem {vals : List (List Sec)} {i : Nat} : i ∈ pend vals ↔ i < vals.length ∧ 1 < (vals.getD i []).length := by simp [pend]
theorem pend_nodup (vals : List (List Sec)) : (pend vals).Nodup := List.Nodup.sublist List.filter_sublist List.nodup_range
theorem pend_sorted (vals : List (List Sec)) : (pend vals).Pairwise (· < ·) := List.Pairwise.sublist List.filter_sublist List.pairwise_lt_range
theorem pend_length (vals : List (List Sec)) : (pend vals).length ≤ vals.length := by
  have := List.length_filter_le (fun i => decide (1 < (vals.getD i []).length)) (List.range vals.length)
  simpa [pend] using this
theorem length_filter_range {α : Type} (q : α → Bool) (z : α) : ∀ l : List α, (l.filter q).length = ((List.range l.length).filter fun i => q (l.getD i z)).length
  | [] => rfl
  | a :: r => by
    rw [List.length_cons, List.range_succ_eq_map, List.filter_cons]
    have e : ((List.map Nat.succ (List.range r.length)).filter fun i => q ((a :: r).getD i z)).length = ((List.range r.length).filter fun i => q (r.getD i z)).length := by
      rw [List.filter_map, List.length_map]
      congr 1
    simp only [List.getD_cons_zero, List.filter_cons]
    split
    · rw [List.length_cons, List.length_cons, e, length_filter_range q z r]
    · rw [e, length_filter_range q z r]
theorem pend_pending (d : Dsk) : (pend d.vals).length = d.pending := (length_filter_range (fun l : List Sec => decide (1 < l.length)) [] d.vals).symm
theorem Many.perm {D : DU} {vals : List (List Sec)} (h : Many D vals) (hE : ∃ es, D = .map es ∧ es.Pairwise (fun p q => p.1 ≠ q.1) ∧ ∀ p ∈ es, WideAt.IsKeyLit p.1) : ((pend vals).map (fun i : Nat => (i : Int))).Perm (intKeys D) := by
  obtain ⟨es, rfl, hp, hk⟩ := hE
  refine perm_intKeys hp (fun p hp' => ?_) ?_ (fun x => ?_)
  · obtain ⟨i, _, e⟩ := h.only p.1 (by rw [has_eq, List.any_eq_true]; exact ⟨p, hp', WideAt.sameKey_self (hk p hp')⟩)
    exact ⟨i, e⟩
  · exact List.pairwise_map.2 ((pend_nodup vals).imp fun {a b} hne e => hne (Int.ofNat.inj e))
  · rw [List.mem_map]
    constructor
    · rintro ⟨i, hi, rfl⟩
      obtain ⟨h1, h2⟩ := pend_mem.1 hi
      rw [h.has i h1, decide_eq_true h2]
    · intro hx
      obtain ⟨i, hi, e⟩ := h.only _ hx
      cases e
      rw [h.has i hi] at hx
      exact ⟨i, pend_mem.2 ⟨hi, of_decide_eq_true hx⟩, rfl⟩
theorem Many.size {D : DU} {vals : List (List Sec)} (h : Many D vals) (hE : ∃ es, D = .map es ∧ es.Pairwise (fun p q => p.1 ≠ q.1) ∧ ∀ p ∈ es, WideAt.IsKeyLit p.1) : Maps.size D = (pend vals).length := by
  have hp := (h.perm hE).length_eq
  obtain ⟨es, rfl, _⟩ := hE
  simp only [List.length_map] at hp
  rw [hp]
  simp [Maps.size, intKeys]
theorem Many.sorted {D : DU} {vals : List (List Sec)} (h : Many D vals) (hE : ∃ es, D = .map es ∧ es.Pairwise (fun p q => p.1 ≠ q.1) ∧ ∀ p ∈ es, WideAt.IsKeyLit p.1) {ss : List Int} (hs : ss.Perm (intKeys D)) :
    ss.mergeSort Go.leI = (pend vals).map (fun i : Nat => (i : Int)) := by
  rw [mergeSort_of_perm_i (hs.trans (h.perm hE).symm)]
  refine List.mergeSort_of_pairwise (List.pairwise_map.2 ((pend_sorted vals).imp fun {a b} hlt => ?_))
  simp only [Go.leI, decide_eq_true_eq]
  omega
theorem int_key (x : Int) : WideAt.IsKeyLit (.int .i64 x) := trivial
theorem getD_modify (vals : List (List Sec)) (i j : Nat) (s : Sec) : (vals.modify i (· ++ [s])).getD j [] = if i = j ∧ j < vals.length then vals.getD j [] ++ [s] else vals.getD j [] := by
  simp only [List.getD_eq_getElem?_getD, List.getElem?_modify]
  by_cases h : i = j
  · subst h
    by_cases hl : i < vals.length
    · simp [hl]
    · simp [hl, List.getElem?_eq_none (Nat.not_lt.1 hl)]
  · simp [h]
theorem Many.put {D : DU} {vals : List (List Sec)} (h : Many D vals) (hD : IsMap D) (ne : ∀ l ∈ vals, l ≠ []) {i : Nat} (hi : i < vals.length) (s : Sec) :
    Many (D.put (.int .i64 i) (.lit (.int .i64 ((vals.getD i []).length : Nat)))) (vals.modify i (· ++ [s])) := by
  have hpos : ∀ j, j < vals.length → 0 < (vals.getD j []).length := fun j hj => by
    rw [List.getD_eq_getElem?_getD, List.getElem?_eq_getElem hj]
    exact List.length_pos_iff.2 (ne _ (List.getElem_mem hj))
  have hne : ∀ j : Nat, j ≠ i → (Lit.int .i64 (j : Int)) ≠ .int .i64 (i : Int) := fun j hj e => hj (by injection e with _ e; omega)
  refine ⟨fun j hj => ?_, fun j hj => ?_, fun kl hkl => ?_⟩
  · have hj' : j < vals.length := by simpa using hj
    rw [getD_modify]
    by_cases e : j = i
    · subst e
      rw [atKey_put_same hD (int_key _), if_pos ⟨rfl, hj'⟩]
      have := hpos j hj'
      simp
    · rw [atKey_put_other (hne j e), if_neg (fun h => e h.1.symm), h.at_ j hj']
  · have hj' : j < vals.length := by simpa using hj
    rw [getD_modify]
    by_cases e : j = i
    · subst e
      have := hpos j hj'
      rw [has_put_same hD (int_key _), if_pos ⟨rfl, hj'⟩]
      exact (decide_eq_true (by rw [List.length_append, List.length_singleton]; omega)).symm
    · rw [has_put_other (hne j e), if_neg (fun h => e h.1.symm), h.has j hj']
  · by_cases e : kl = .int .i64 (i : Int)
    · exact ⟨i, by simpa using hi, e⟩
    · rw [has_put_other e] at hkl
      obtain ⟨j, hj, r⟩ := h.only kl hkl
      exact ⟨j, by simpa using hj, r⟩
theorem Many.empty {vals : List (List Sec)} (h1 : ∀ l ∈ vals, l.length = 1) : Many (.map []) vals := by
  have hl : ∀ i, i < vals.length → (vals.getD i []).length = 1 := fun i hi => by
    rw [List.getD_eq_getElem?_getD, List.getElem?_eq_getElem hi]
    exact h1 _ (List.getElem_mem hi)
  refine ⟨fun i hi => ?_, fun i hi => ?_, fun kl hk => ?_⟩
  · rw [hl i hi]; rfl
  · rw [hl i hi]; rfl
  · cases hk
end Go.Proofs.YtfhdiddlloiglaaDoor
end
