/- VersionSorts: the order of versions with their places; Compare's contract. -/
import Derived.Test.YtbikimkmkchkhaaDoorMASo3
import Derived.Test.YtbikimkmkchkhaaDoorMAU1
namespace Go.Proofs.YtbikimkmkchkhaaDoor
open Go.RowKit Go.Proofs.YtbikimkmkchkhaaDoorW.PrintWords
set_option linter.unusedVariables false
set_option linter.unusedSimpArgs false
set_option maxRecDepth 100000

def ord (x y : VE) : Int := PAll.cmpV x.p x.t y.p y.t
theorem ord_neg (x y : VE) : ord y x = - ord x y := PAll.cmpV_neg _ _ _ _
theorem ord_tri (x y z : VE) : PAll.Tri (ord x y) (ord y z) (ord x z) := PAll.cmpV_tri _ _ _ _ _ _
/-- A version and its place at the beginning. -/
abbrev TE := VE × Nat
def tlt (a b : TE) : Prop := ord a.1 b.1 < 0 ∨ (ord a.1 b.1 = 0 ∧ a.2 < b.2)
theorem tlt_trans {a b c : TE} (h1 : tlt a b) (h2 : tlt b c) : tlt a c := by
  have ht := ord_tri a.1 b.1 c.1
  obtain ⟨l, r, lt, gt⟩ := ht
  unfold tlt at *
  rcases h1 with h1 | ⟨h1, k1⟩ <;> rcases h2 with h2 | ⟨h2, k2⟩
  · exact .inl (lt h1 h2)
  · exact .inl (by have := r h2; omega)
  · exact .inl (by have := l h1; omega)
  · exact .inr ⟨by have := l h1; omega, by omega⟩
theorem tlt_asym {a b : TE} (h1 : tlt a b) (h2 : tlt b a) : False := by
  have := ord_neg a.1 b.1
  unfold tlt at *
  omega
theorem tlt_of_lt {a b : TE} (h : ord a.1 b.1 < 0) : tlt a b := .inl h
/-- Where cmp does not put b ahead, and a came first. -/
theorem tlt_of_ge {a b : TE} (h : ¬ ord b.1 a.1 < 0) (ht : a.2 < b.2) : tlt a b := by
  have := ord_neg a.1 b.1
  unfold tlt
  by_cases h0 : ord a.1 b.1 = 0
  · exact .inr ⟨h0, ht⟩
  · exact .inl (by omega)
abbrev Srt (l : List TE) : Prop := l.Pairwise tlt
def un (l : List TE) : List VE := l.map Prod.fst
theorem un_app (a b : List TE) : un (a ++ b) = un a ++ un b := List.map_append
theorem un_cons (a : TE) (b : List TE) : un (a :: b) = a.1 :: un b := rfl
theorem un_len (a : List TE) : (un a).length = a.length := List.length_map ..
/-- Sorted, and the same elements: the same list. -/
theorem srt_unique : ∀ {a b : List TE}, a.Perm b → Srt a → Srt b → a = b
  | [], b, p, _, _ => (List.nil_perm.1 p).symm ▸ rfl
  | x :: r, [], p, _, _ => absurd p.length_eq (by simp)
  | x :: r, y :: s, p, h1, h2 => by
    have hx : x = y := by
      rcases List.mem_cons.1 (p.subset (List.mem_cons_self)) with h | h
      · exact h
      · rcases List.mem_cons.1 (p.symm.subset (List.mem_cons_self)) with h' | h'
        · exact h'.symm
        · exact (tlt_asym ((List.pairwise_cons.1 h1).1 y h') ((List.pairwise_cons.1 h2).1 x h)).elim
    subst hx
    rw [srt_unique (List.Perm.cons_inv p) (List.pairwise_cons.1 h1).2 (List.pairwise_cons.1 h2).2]
/-- What a version in memory is, from the beginning on. -/
structure VOk (w : World) (x : VE) : Prop where
  rd : Kd.C (Kd.int .i64) w x.A x.p.length x.p
  cap : x.p.length ≤ x.c
  len : x.p.length ≤ 17592186043904
  txt : x.t.size ≤ 140737488351232
def AllOk (w : World) (l : List VE) : Prop := ∀ x ∈ l, VOk w x
section
variable {w0 w : World} {L : List Res}
theorem St.cmp (H : St w0 w L) {x y : VE} (hx : VOk w0 x) (hy : VOk w0 y) : Calls Tryd.prog 9 #[.agg #[.slice x.A x.p.length x.c, .string x.t], .agg #[.slice y.A y.p.length y.c, .string y.t]] w fun e w' => e = .returned (.int .i64 (ord x y)) ∧ Below w.heap.size w w' := by
  have h1 := hx.len; have h2 := hx.txt; have h3 := hy.len; have h4 := hy.txt
  exact PAll.version_Compare.calls x.A x.c x.p x.t y.A y.c y.p y.t (ord x y) w (Kd.C_below hx.rd H.below) hx.cap (Kd.C_below hy.rd H.below) hy.cap (PAll.compare_at (by omega) (by omega) (by omega) (by omega))
/-- The world behind an exchange, the later place written first. -/
def xw2 (W : World) (g i j : Nat) (u v : VE) : World := (((W.setCell ⟨g, j * 2, none⟩ u.p0).setCell ⟨g, j * 2 + 1, none⟩ u.t0).setCell ⟨g, i * 2, none⟩ v.p0).setCell ⟨g, i * 2 + 1, none⟩ v.t0
theorem St.xchg2 {g c : Nat} {W : World} {P Q R : List VE} {u v : VE} (H : St w0 W (rVs g c (P ++ u :: (Q ++ v :: R)) :: L)) : W.cell? ⟨g, P.length * 2, none⟩ = some u.p0 ∧ W.cell? ⟨g, P.length * 2 + 1, none⟩ = some u.t0 ∧ W.cell? ⟨g, (P.length + (1 + Q.length)) * 2, none⟩ = some v.p0 ∧ W.cell? ⟨g, (P.length + (1 + Q.length)) * 2 + 1, none⟩ = some v.t0 ∧
    St w0 (xw2 W g P.length (P.length + (1 + Q.length)) u v) (rVs g c (P ++ v :: (Q ++ u :: R)) :: L) := by
  obtain ⟨a, b, c1, d, _⟩ := H.xchg
  have e1 : (P ++ u :: (Q ++ v :: R))[P.length]? = some u := by simp
  have e2 : (P ++ u :: (Q ++ v :: R))[P.length + (1 + Q.length)]? = some v := by
    rw [List.getElem?_append_right (by omega)]
    simp only [Nat.add_sub_cancel_left]
    rw [Nat.add_comm 1, List.getElem?_cons_succ, List.getElem?_append_right (by omega)]
    simp
  obtain ⟨h1, g1⟩ := List.getElem?_eq_some_iff.1 e1
  obtain ⟨h2, g2⟩ := List.getElem?_eq_some_iff.1 e2
  have H1 := H.vsSet h2 u
  have H2 := H1.vsSet (i := P.length) (by rw [List.length_set]; exact h1) v
  refine ⟨a, b, c1, d, ?_⟩
  have e : ((P ++ u :: (Q ++ v :: R)).set (P.length + (1 + Q.length)) u).set P.length v = P ++ v :: (Q ++ u :: R) := by
    rw [List.set_append_right _ _ (by omega), Nat.add_sub_cancel_left, Nat.add_comm 1, List.set_cons_succ, List.set_append_right _ _ (by omega), Nat.sub_self, List.set_cons_zero, List.set_append_right _ _ (by omega), Nat.sub_self, List.set_cons_zero]
  rw [e] at H2
  exact H2
end
end Go.Proofs.YtbikimkmkchkhaaDoor
