/- The law PathTargets: what the document's target computes. -/
import Derived.Test.YtboefcnghngoaaaRefs2
import Derived.Test.YtboefcnghngoaaaE
namespace Go.Proofs.Ytboefcnghngoaaa
open Go.RowKit Go.Lib Sp Go.Proofs.YtboefcnghngoaaaW.PrintWords Go.Proofs.YtboefcnghngoaaaW.PrintLast Go.Proofs.YtboefcnghngoaaaW.PrintMore PAll

/-- A way's parts are names: not empty, without a slash. -/
def Names (way : List (List UInt8)) : Prop := ∀ x ∈ way, isName x = true
theorem name_no {x : List UInt8} (h : isName x = true) : (47 : UInt8) ∉ x := by
  intro hm
  have : x.any oddB = true := List.any_eq_true.2 ⟨47, hm, by decide⟩
  simp [isName, this] at h
theorem name_ne' {x : List UInt8} (h : isName x = true) : x ≠ [] := by rintro rfl; revert h; decide
theorem jn_nil_iff {way : List (List UInt8)} (h : Names way) : jn way = [] ↔ way = [] := by
  constructor
  · intro e
    cases way with
    | nil => rfl
    | cons y r =>
      by_cases hr : r = []
      · subst hr; rw [jn_one] at e; exact absurd e (name_ne' (h y (by simp)))
      · rw [jn_cons _ _ hr] at e; simp at e
  · rintro rfl; rfl

def fin1 : Option (List (List UInt8)) → ByteArray × Int
  | none => (⟨#[]⟩, 140)
  | some way => if 200 < (jn way).length then (⟨#[]⟩, 140) else (bs (jn way), 0)

theorem rtarget_l0 (x7 : List ByteArray) (hl : x7.length ≤ 1152921504606846976) : ∀ (d i : Nat) (way : List (List UInt8)), x7.length - i = d → i ≤ x7.length → Names way → wt way + wt ((x7.drop i).map (·.data.toList)) ≤ 1152921504606846976 →
    Ev (fun k => sutlerref14_Target.l0 k (bs (jn way)) x7 (i : Int)) (fin1 (walkWay way ((x7.drop i).map (·.data.toList)))) := by
  intro d
  induction d with
  | zero =>
    intro i way hd hi hN hB
    have hi' : i = x7.length := by omega
    rw [hi', List.drop_length, List.map_nil]
    show Ev _ (if 200 < (jn way).length then ((⟨#[]⟩ : ByteArray), (140 : Int)) else (bs (jn way), (0 : Int)))
    by_cases h : 200 < (jn way).length
    · rw [if_pos h]
      refine Ev.round (fun _ => some (⟨#[]⟩, 140)) (fun k => ?_) (Ev.now _)
      simp only [sutlerref14_Target.l0]
      rw [if_neg (by omega), if_pos (by rw [bs_size]; omega)]
    · rw [if_neg h]
      refine Ev.round (fun _ => some (bs (jn way), 0)) (fun k => ?_) (Ev.now _)
      simp only [sutlerref14_Target.l0]
      rw [if_neg (by omega), if_neg (by rw [bs_size]; omega)]
  | succ d ih =>
    intro i way hd hi hN hB
    have hlt : i < x7.length := by omega
    obtain ⟨x, hx⟩ : ∃ x, x = x7[i] := ⟨_, rfl⟩
    have hrd : rdOf ByteArray.empty x7 (i : Int) = x := by simp [rdOf, List.getD_eq_getElem?_getD, hlt, hx]
    have hdr : (x7.drop i).map (·.data.toList) = x.data.toList :: (x7.drop (i + 1)).map (·.data.toList) := by rw [List.drop_eq_getElem_cons hlt, List.map_cons, hx]
    have hxs := Lib.size_eq x
    rw [hdr] at hB ⊢
    have hwt : wt (x.data.toList :: (x7.drop (i + 1)).map (·.data.toList)) = (x.data.toList.length + 1) + wt ((x7.drop (i + 1)).map (·.data.toList)) := by simp [wt]
    rw [hwt] at hB
    have hwr : wrap64 ((i : Int) + 1) = ((i + 1 : Nat) : Int) := wrap_up hlt (by omega)
    have hjw : (jn way).length ≤ wt way := join_wt way
    clear hx hdr hwt
    simp only [walkWay]
    have nxt : ∀ w', stepWay way x.data.toList = some w' → Names w' → Ev (fun k => sutlerref14_Target.l0 k (bs (jn w')) x7 (wrap64 ((i : Int) + 1))) (fin1 ((stepWay way x.data.toList).bind fun w => walkWay w ((x7.drop (i + 1)).map (·.data.toList)))) := by
      intro w' hs hN'
      rw [hs, hwr]
      have := wt_step hs
      exact ih (i + 1) w' (by omega) (by omega) hN' (by omega)
    by_cases h1 : x.data.toList = [] ∨ x.data.toList = [46]
    · have hs : stepWay way x.data.toList = some way := by unfold stepWay; rw [if_pos h1]
      refine Ev.round (fun k => sutlerref14_Target.j3 k (bs (jn way)) x7 (i : Int) true) (fun k => ?_) ?_
      · simp only [sutlerref14_Target.l0]
        rw [if_pos (by omega), if_pos (by omega), hrd, toList_data]
        by_cases h0 : x.data.toList = []
        · rw [if_pos h0]
        · rw [if_neg h0]
          have : (x.data.toList == ([46] : List UInt8)) = true := by rcases h1 with h1 | h1; (exact absurd h1 h0); (rw [h1]; rfl)
          rw [this]
      · refine Ev.round (fun k => sutlerref14_Target.l0 k (bs (jn way)) x7 (wrap64 ((i : Int) + 1))) (fun k => ?_) (nxt way hs hN)
        simp only [sutlerref14_Target.j3]; rw [if_pos trivial]
    · have h0 : x.data.toList ≠ [] := fun e => h1 (.inl e)
      have hd : (x.data.toList == ([46] : List UInt8)) = false := by simpa using fun e => h1 (.inr e)
      refine Ev.round (fun k => sutlerref14_Target.j3 k (bs (jn way)) x7 (i : Int) false) (fun k => ?_) ?_
      · simp only [sutlerref14_Target.l0]
        rw [if_pos (by omega), if_pos (by omega), hrd, toList_data, if_neg h0, hd]
      by_cases h2 : x.data.toList = [46, 46]
      · by_cases h3 : way = []
        · have hs : stepWay way x.data.toList = none := by unfold stepWay; rw [if_neg h1, if_neg (by simp [h3]), h2, if_neg (by decide)]
          rw [hs]
          refine Ev.round (fun _ => some (⟨#[]⟩, 140)) (fun k => ?_) (Ev.now _)
          simp only [sutlerref14_Target.j3]
          rw [if_neg (by simp), if_pos (by omega), if_pos (by omega), hrd, toList_data, if_pos h2, toList_data, bs_data, if_pos ((jn_nil_iff hN).2 h3)]
        · have hs : stepWay way x.data.toList = some way.dropLast := by unfold stepWay; rw [if_neg h1, if_pos ⟨h2, h3⟩]
          refine Ev.round (fun k => (sutlerref14_Parent.f k (bs (jn way))).bind fun t => sutlerref14_Target.l0 k t x7 (wrap64 ((i : Int) + 1))) (fun k => ?_) ?_
          · simp only [sutlerref14_Target.j3]
            rw [if_neg (by simp), if_pos (by omega), if_pos (by omega), hrd, toList_data, if_pos h2, toList_data, bs_data, if_neg (fun e => h3 ((jn_nil_iff hN).1 e))]
          · refine Ev.bind (rparent_f (bs (jn way)) (by rw [bs_size]; omega)) ?_
            rw [bs_data, parent_jn way fun y hy => name_no (hN y hy)]
            exact nxt _ hs fun y hy => hN y (List.dropLast_subset _ hy)
      · refine Ev.round (fun k => (sutlerref14_Name.f k x).bind fun t => if t = true then ((sutlerref14_Join.f (bs (jn way)) x).bind fun t => sutlerref14_Target.l0 k t x7 (wrap64 ((i : Int) + 1))) else some (⟨#[]⟩, 140)) (fun k => ?_) ?_
        · simp only [sutlerref14_Target.j3]
          rw [if_neg (by simp), if_pos (by omega), if_pos (by omega), hrd, toList_data, if_neg h2]
        refine Ev.bind (name_f x (by omega)) ?_
        cases hn : isName x.data.toList with
        | false =>
          have hs : stepWay way x.data.toList = none := by unfold stepWay; rw [if_neg h1, if_neg (fun e => h2 e.1), hn]; rfl
          rw [hs]
          exact Ev.some fun k => by simp [fin1]
        | true =>
          have hs : stepWay way x.data.toList = some (way ++ [x.data.toList]) := by unfold stepWay; rw [if_neg h1, if_neg (fun e => h2 e.1), hn]; rfl
          refine Ev.congr (f := fun k => sutlerref14_Target.l0 k (bs (jn (way ++ [x.data.toList]))) x7 (wrap64 ((i : Int) + 1))) (fun k => ?_) (nxt _ hs ?_)
          · rw [if_pos rfl, rjoin_f _ _ (by rw [bs_size]; omega), bs_data, join_jn way _ (fun y hy => name_ne' (hN y hy)) h0]; rfl
          · intro y hy
            rcases List.mem_append.1 hy with hy | hy
            · exact hN y hy
            · rw [List.mem_singleton] at hy; rw [hy]; exact hn

theorem names_of_path {l : List UInt8} (h0 : l ≠ []) (h : isPath l = true) : Names (texts l) := by
  unfold isPath at h
  have e : l.isEmpty = false := by cases l with | nil => exact absurd rfl h0 | cons => rfl
  rw [e] at h
  simp [List.all_eq_true] at h
  exact fun x hx => h.2 x hx

theorem rtarget_f (a t : ByteArray) (hb : a.size + t.size ≤ 1099511627776) : Ev (fun k => sutlerref14_Target.f k a t) (bs (targetL a.data.toList t.data.toList).1, (targetL a.data.toList t.data.toList).2) := by
  have hsz := Lib.size_eq a
  have tsz := Lib.size_eq t
  unfold sutlerref14_Target.f
  obtain ⟨T, hT⟩ : ∃ T, T = targetL a.data.toList t.data.toList := ⟨_, rfl⟩
  rw [← hT]
  unfold targetL at hT
  refine Ev.bind (check_f a) ?_
  have bad : Ev (fun k => sutlerref14_Target.j0 k a t true) ((⟨#[]⟩ : ByteArray), (140 : Int)) :=
    Ev.round (fun _ => some (⟨#[]⟩, 140)) (fun k => by simp only [sutlerref14_Target.j0]; rw [if_pos trivial]) (Ev.now _)
  by_cases hp' : isPath a.data.toList = false
  · rw [if_pos (.inr (.inr hp'))] at hT
    subst hT
    rw [hp']
    exact Ev.congr (fun k => by rw [if_neg (by simp)]) bad
  have hp : isPath a.data.toList = true := by simpa using hp'
  rw [hp]
  by_cases h1 : a.data.toList = []
  · rw [if_pos (.inl h1)] at hT
    subst hT
    exact Ev.congr (fun k => by rw [if_pos (by simp), toList_data, if_pos h1]) bad
  by_cases h2 : t.data.toList = []
  · rw [if_pos (.inr (.inl h2))] at hT
    subst hT
    exact Ev.congr (fun k => by rw [if_pos (by simp), toList_data, if_neg h1, toList_data, h2]; rfl) bad
  rw [if_neg (by simp [h1, h2, hp])] at hT
  have hne : (t.data.toList == ([] : List UInt8)) = false := by simpa using h2
  refine Ev.congr (f := fun k => sutlerref14_Target.j0 k a t false) (fun k => by rw [if_pos (by simp), toList_data, if_neg h1, toList_data, hne]) ?_
  have hN := names_of_path h1 hp
  have ht0 : 0 < t.size := by rw [tsz]; exact List.length_pos_iff.2 h2
  obtain ⟨R, hR, hRt⟩ := split_f t (by omega)
  have hRl : R.length = (texts t.data.toList).length := by rw [← hRt, List.length_map]
  have hRw := length_wt (texts t.data.toList)
  have hwt := wt_texts t.data.toList
  have hst := wt_start a.data.toList t.data.toList
  have fin : ∀ way, way = startWay a.data.toList t.data.toList → Names way → Ev (fun k => sutlerref14_Target.j1 k t (bs (jn way))) (fin1 (walkWay (startWay a.data.toList t.data.toList) (texts t.data.toList))) := by
    intro way hw hNw
    refine Ev.round (fun k => (sutlerbase_Split.f k t 47).bind fun r => sutlerref14_Target.l0 k (bs (jn way)) r 0) (fun k => by simp only [sutlerref14_Target.j1]) ?_
    refine Ev.bind hR ?_
    have := rtarget_l0 R (by omega) R.length 0 way (by omega) (by omega) hNw (by rw [List.drop_zero, hRt, hw]; omega)
    rw [List.drop_zero, hRt] at this
    rw [← hw]
    exact this
  refine Ev.round (fun k => (sutlerref14_Parent.f k a).bind fun p => if bt t 0 = 47 then sutlerref14_Target.j1 k t (⟨#[]⟩ : ByteArray) else sutlerref14_Target.j1 k t p) (fun k => ?_) ?_
  · simp only [sutlerref14_Target.j0]
    rw [if_neg (by simp)]
    congr 1
    funext p
    rw [if_pos (by omega)]
  refine Ev.bind (rparent_f a (by omega)) ?_
  have e : (match walkWay (startWay a.data.toList t.data.toList) (texts t.data.toList) with
    | none => (([] : List UInt8), (140 : Int))
    | some way => if 200 < (join way [47]).length then ([], 140) else (join way [47], 0)) = ((fin1 (walkWay (startWay a.data.toList t.data.toList) (texts t.data.toList))).1.data.toList, (fin1 (walkWay (startWay a.data.toList t.data.toList) (texts t.data.toList))).2) := by
    cases walkWay (startWay a.data.toList t.data.toList) (texts t.data.toList) with
    | none => rfl
    | some way =>
      show (if 200 < (jn way).length then ([], 140) else (jn way, 0)) = _
      unfold fin1
      by_cases h : 200 < (jn way).length
      · simp only [if_pos h]
      · simp only [if_neg h]; rfl
  obtain rfl := hT.trans e
  clear e hT
  have hb0 : bt t 0 = ((t[0]'ht0).toNat : Int) := bt_nat t 0 ht0
  have hhead : t.data.toList.head? = t.data.toList[0]? := by rw [List.head?_eq_getElem?]
  by_cases h47 : bt t 0 = 47
  · have : startWay a.data.toList t.data.toList = [] := by
      unfold startWay; rw [if_pos]; rw [hhead]; exact (is47 ht0).1 (by rw [← hb0]; exact h47)
    refine Ev.congr (f := fun k => sutlerref14_Target.j1 k t (bs (jn []))) (fun k => by rw [if_pos h47]; rfl) (fin [] this.symm (by intro x hx; cases hx))
  · have : startWay a.data.toList t.data.toList = (texts a.data.toList).dropLast := by
      unfold startWay; rw [if_neg]; rw [hhead]; exact fun h => h47 (by rw [hb0]; exact (is47 ht0).2 h)
    have hpj : parentL a.data.toList = jn (texts a.data.toList).dropLast := by
      conv => lhs; rw [← jn_texts a.data.toList]
      exact parent_jn _ (no_slash _)
    refine Ev.congr (f := fun k => sutlerref14_Target.j1 k t (bs (jn (texts a.data.toList).dropLast))) (fun k => by rw [if_neg h47, hpj]) (fin _ this.symm (fun y hy => hN y (List.dropLast_subset _ hy)))

#print axioms rtarget_f
end Go.Proofs.Ytboefcnghngoaaa
