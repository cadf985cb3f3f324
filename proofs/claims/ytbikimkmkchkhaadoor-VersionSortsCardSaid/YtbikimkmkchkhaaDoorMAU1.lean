/- The order of versions in plain Lean; works; the law VersionOrders. -/
import Derived.Test.YtbikimkmkchkhaaDoorMAPAllx74
namespace Go.Proofs.YtbikimkmkchkhaaDoor.PAll
open Go.RowKit Go.Lib Go.Proofs.YtbikimkmkchkhaaDoor Go.Proofs.YtbikimkmkchkhaaDoorW.PrintWords Go.Proofs.YtbikimkmkchkhaaDoorW.PrintLast Go.Proofs.YtbikimkmkchkhaaDoorW.PrintMore
set_option linter.unusedVariables false
set_option linter.unusedSimpArgs false

theorem works_true : sutlerlaw17_works.f = some true := by decide +kernel

/-- Three answers of an order: x of a and b, y of b and c, z of a and c. -/
structure Tri (x y z : Int) : Prop where
  l : x = 0 → z = y
  r : y = 0 → z = x
  lt : x < 0 → y < 0 → z < 0
  gt : 0 < x → 0 < y → 0 < z
def Sgn (x : Int) : Prop := x = -1 ∨ x = 0 ∨ x = 1
theorem cmpI_sgn (a b : Int) : Sgn (cmpI a b) := by
  unfold cmpI Sgn
  by_cases h : a < b
  · rw [if_pos h]; exact Or.inl rfl
  · rw [if_neg h]
    by_cases h2 : a > b
    · rw [if_pos h2]; exact Or.inr (Or.inr rfl)
    · rw [if_neg h2]; exact Or.inr (Or.inl rfl)
theorem cmpI_cases (a b : Int) : (cmpI a b = -1 ∧ a < b) ∨ (cmpI a b = 0 ∧ a = b) ∨ (cmpI a b = 1 ∧ b < a) := by
  unfold cmpI
  by_cases h : a < b
  · rw [if_pos h]; exact Or.inl ⟨rfl, h⟩
  · rw [if_neg h]
    by_cases h2 : a > b
    · rw [if_pos h2]; exact Or.inr (Or.inr ⟨rfl, h2⟩)
    · rw [if_neg h2]; exact Or.inr (Or.inl ⟨rfl, by omega⟩)
theorem cmpI_neg (a b : Int) : cmpI b a = - cmpI a b := by
  rcases cmpI_cases a b with ⟨h, k⟩ | ⟨h, k⟩ | ⟨h, k⟩ <;> rcases cmpI_cases b a with ⟨h', k'⟩ | ⟨h', k'⟩ | ⟨h', k'⟩ <;> omega
theorem cmpI_tri (a b c : Int) : Tri (cmpI a b) (cmpI b c) (cmpI a c) := by
  rcases cmpI_cases a b with ⟨h, k⟩ | ⟨h, k⟩ | ⟨h, k⟩ <;> rcases cmpI_cases b c with ⟨h', k'⟩ | ⟨h', k'⟩ | ⟨h', k'⟩ <;> rcases cmpI_cases a c with ⟨h'', k''⟩ | ⟨h'', k''⟩ | ⟨h'', k''⟩ <;> exact ⟨by omega, by omega, by omega, by omega⟩
/-- First by one order, then by another. -/
theorem lex_sgn {x x' : Int} (h : Sgn x) (h' : Sgn x') : Sgn (if x = 0 then x' else x) := by split <;> assumption
theorem lex_neg {x x' y y' : Int} (h : y = -x) (h' : y' = -x') : (if y = 0 then y' else y) = - (if x = 0 then x' else x) := by
  by_cases hx : x = 0
  · rw [if_pos hx, if_pos (by omega)]; exact h'
  · rw [if_neg hx, if_neg (by omega)]; exact h
theorem lex_tri {x y z x' y' z' : Int} (sx : Sgn x) (sy : Sgn y) (sz : Sgn z) (h : Tri x y z) (h' : Tri x' y' z') : Tri (if x = 0 then x' else x) (if y = 0 then y' else y) (if z = 0 then z' else z) := by
  obtain ⟨l, r, lt, gt⟩ := h
  obtain ⟨l', r', lt', gt'⟩ := h'
  unfold Sgn at sx sy sz
  by_cases hx : x = 0
  · have := l hx
    by_cases hy : y = 0
    · rw [if_pos hx, if_pos hy, if_pos (by omega)]; exact ⟨l', r', lt', gt'⟩
    · rw [if_pos hx, if_neg hy, if_neg (by omega)]; exact ⟨by omega, by omega, by omega, by omega⟩
  · by_cases hy : y = 0
    · have := r hy
      rw [if_neg hx, if_pos hy, if_neg (by omega)]; exact ⟨by omega, by omega, by omega, by omega⟩
    · rw [if_neg hx, if_neg hy]
      refine ⟨by omega, by omega, fun h1 h2 => ?_, fun h1 h2 => ?_⟩
      · have := lt h1 h2
        rw [if_neg (by omega)]; exact this
      · have := gt h1 h2
        rw [if_neg (by omega)]; exact this
theorem fd_eq (p q : List Int) (n i : Nat) : firstDiff p q (n + 1) i = if cmpI (rd p (i : Int)) (rd q (i : Int)) = 0 then firstDiff p q n (i + 1) else cmpI (rd p (i : Int)) (rd q (i : Int)) := rfl
theorem fd_sgn (p q : List Int) : ∀ n i, Sgn (firstDiff p q n i)
  | 0, i => Or.inr (Or.inl rfl)
  | n + 1, i => by rw [fd_eq]; exact lex_sgn (cmpI_sgn _ _) (fd_sgn p q n (i + 1))
theorem fd_neg (p q : List Int) : ∀ n i, firstDiff q p n i = - firstDiff p q n i
  | 0, i => rfl
  | n + 1, i => by rw [fd_eq, fd_eq]; exact lex_neg (cmpI_neg _ _) (fd_neg p q n (i + 1))
theorem fd_tri (p q r : List Int) : ∀ n i, Tri (firstDiff p q n i) (firstDiff q r n i) (firstDiff p r n i)
  | 0, i => ⟨fun _ => rfl, fun _ => rfl, fun (h : (0 : Int) < 0) _ => absurd h (by decide), fun (h : (0 : Int) < 0) _ => absurd h (by decide)⟩
  | n + 1, i => by
    rw [fd_eq, fd_eq, fd_eq]
    exact lex_tri (cmpI_sgn _ _) (cmpI_sgn _ _) (cmpI_sgn _ _) (cmpI_tri _ _ _) (fd_tri p q r n (i + 1))
theorem fd_far (p q : List Int) : ∀ n i, p.length ≤ i → q.length ≤ i → firstDiff p q n i = 0
  | 0, i, _, _ => rfl
  | n + 1, i, hp, hq => by
    rw [fd_eq, rd_far hp, rd_far hq, if_pos (by rfl)]
    exact fd_far p q n (i + 1) (by omega) (by omega)
theorem fd_more (p q : List Int) : ∀ n m i, p.length ≤ i + n → q.length ≤ i + n → firstDiff p q (n + m) i = firstDiff p q n i
  | 0, m, i, hp, hq => by rw [Nat.zero_add, fd_far p q m i (by omega) (by omega)]; rfl
  | n + 1, m, i, hp, hq => by
    rw [show n + 1 + m = (n + m) + 1 by omega, fd_eq, fd_eq, fd_more p q n m (i + 1) (by omega) (by omega)]
theorem fd_max (p q : List Int) (n : Nat) (hp : p.length ≤ n) (hq : q.length ≤ n) : firstDiff p q (max p.length q.length) 0 = firstDiff p q n 0 := by
  have := fd_more p q (max p.length q.length) (n - max p.length q.length) 0 (by omega) (by omega)
  rw [show max p.length q.length + (n - max p.length q.length) = n by omega] at this
  exact this.symm
theorem cmpV_at (p : List Int) (t : ByteArray) (q : List Int) (u : ByteArray) (n : Nat) (hp : p.length ≤ n) (hq : q.length ≤ n) : cmpV p t q u = if firstDiff p q n 0 = 0 then cmpT t u else firstDiff p q n 0 := by
  unfold cmpV
  rw [fd_max p q n hp hq]
/-- The tails: the empty one last, else as their letters. -/
theorem less_dec (a b : List UInt8) : (Op.bytesLess a b = true) = (a < b) := by rw [YtbikimkmkchkhaaDoor.less_iff]; simp
theorem cmpT_cases (t u : ByteArray) : (cmpT t u = 0 ∧ t.toList = u.toList) ∨ (cmpT t u = 1 ∧ ¬ t.toList = u.toList ∧ (t.toList = [] ∨ (¬ u.toList = [] ∧ u.toList < t.toList))) ∨ (cmpT t u = -1 ∧ ¬ t.toList = u.toList ∧ (u.toList = [] ∨ (¬ t.toList = [] ∧ t.toList < u.toList))) := by
  unfold cmpT
  by_cases e : t.toList = u.toList
  · rw [if_pos e]; exact Or.inl ⟨rfl, e⟩
  · rw [if_neg e]
    by_cases h1 : t.toList = []
    · rw [if_pos h1]; exact Or.inr (Or.inl ⟨rfl, e, Or.inl h1⟩)
    · rw [if_neg h1]
      by_cases h2 : u.toList = []
      · rw [if_pos h2]; exact Or.inr (Or.inr ⟨rfl, e, Or.inl h2⟩)
      · rw [if_neg h2]
        by_cases h3 : Op.bytesLess t.toList u.toList = true
        · rw [if_pos h3]
          rw [less_dec] at h3
          exact Or.inr (Or.inr ⟨rfl, e, Or.inr ⟨h1, h3⟩⟩)
        · rw [if_neg h3]
          have h4 : Op.bytesLess u.toList t.toList = true := Classical.byContradiction fun h4 => e (less_tri h3 h4)
          rw [less_dec] at h4
          exact Or.inr (Or.inl ⟨rfl, e, Or.inr ⟨h2, h4⟩⟩)
theorem cmpT_sgn (t u : ByteArray) : Sgn (cmpT t u) := by
  rcases cmpT_cases t u with ⟨h, _⟩ | ⟨h, _⟩ | ⟨h, _⟩ <;> rw [h] <;> simp [Sgn]
/-- t stands ahead of u. -/
def Ahead (t u : List UInt8) : Prop := t ≠ u ∧ (u = [] ∨ (t ≠ [] ∧ t < u))
theorem ahead_trans {t u v : List UInt8} (h1 : Ahead t u) (h2 : Ahead u v) : Ahead t v := by
  obtain ⟨n1, c1⟩ := h1
  obtain ⟨n2, c2⟩ := h2
  rcases c1 with rfl | ⟨a1, b1⟩
  · rcases c2 with rfl | ⟨a2, b2⟩
    · exact absurd rfl n2
    · exact absurd rfl a2
  · rcases c2 with rfl | ⟨a2, b2⟩
    · exact ⟨a1, Or.inl rfl⟩
    · have := List.lt_trans b1 b2
      exact ⟨fun e => by subst e; exact List.lt_irrefl _ this, Or.inr ⟨a1, this⟩⟩
theorem ahead_asym {t u : List UInt8} (h1 : Ahead t u) (h2 : Ahead u t) : False := (ahead_trans h1 h2).1 rfl
theorem cmpT_three (t u : ByteArray) : (cmpT t u = 0 ∧ t.toList = u.toList) ∨ (cmpT t u = 1 ∧ Ahead u.toList t.toList) ∨ (cmpT t u = -1 ∧ Ahead t.toList u.toList) := by
  rcases cmpT_cases t u with h | ⟨h, n, k⟩ | ⟨h, n, k⟩
  · exact Or.inl h
  · exact Or.inr (Or.inl ⟨h, fun e => n e.symm, k⟩)
  · exact Or.inr (Or.inr ⟨h, n, k⟩)
theorem ahead_ne {t u : List UInt8} (h : Ahead t u) (e : t = u) : False := h.1 e
theorem cmpT_neg (t u : ByteArray) : cmpT u t = - cmpT t u := by
  rcases cmpT_three t u with ⟨h, k⟩ | ⟨h, k⟩ | ⟨h, k⟩ <;> rcases cmpT_three u t with ⟨h', k'⟩ | ⟨h', k'⟩ | ⟨h', k'⟩ <;> first | omega | (exfalso; first | exact ahead_ne k' k | exact ahead_ne k' k.symm | exact ahead_ne k k' | exact ahead_ne k k'.symm | exact ahead_asym k k')
theorem cmpT_tri (t u v : ByteArray) : Tri (cmpT t u) (cmpT u v) (cmpT t v) := by
  have h1 := cmpT_three t u
  have h2 := cmpT_three u v
  have h3 := cmpT_three t v
  generalize cmpT t u = x at *
  generalize cmpT u v = y at *
  generalize cmpT t v = z at *
  generalize t.toList = a at *
  generalize u.toList = b at *
  generalize v.toList = c at *
  rcases h1 with ⟨rfl, k⟩ | ⟨rfl, k⟩ | ⟨rfl, k⟩ <;> rcases h2 with ⟨rfl, k'⟩ | ⟨rfl, k'⟩ | ⟨rfl, k'⟩ <;> rcases h3 with ⟨rfl, k''⟩ | ⟨rfl, k''⟩ | ⟨rfl, k''⟩ <;> first
    | exact ⟨by omega, by omega, by omega, by omega⟩
    | (exfalso; (try subst k); (try subst k'); (try subst k'')
       first
        | exact ahead_ne k rfl
        | exact ahead_ne k' rfl
        | exact ahead_ne k'' rfl
        | exact ahead_asym k k'
        | exact ahead_asym k k''
        | exact ahead_asym k' k''
        | exact ahead_asym (ahead_trans k k') k''
        | exact ahead_asym (ahead_trans k' k) k'')
theorem cmpV_sgn (p : List Int) (t : ByteArray) (q : List Int) (u : ByteArray) : Sgn (cmpV p t q u) := by
  unfold cmpV; exact lex_sgn (fd_sgn _ _ _ _) (cmpT_sgn _ _)
theorem cmpV_neg (p : List Int) (t : ByteArray) (q : List Int) (u : ByteArray) : cmpV q u p t = - cmpV p t q u := by
  rw [cmpV_at q u p t (max p.length q.length) (by omega) (by omega), cmpV_at p t q u (max p.length q.length) (by omega) (by omega)]
  exact lex_neg (fd_neg _ _ _ _) (cmpT_neg _ _)
theorem cmpV_tri (p : List Int) (t : ByteArray) (q : List Int) (u : ByteArray) (r : List Int) (v : ByteArray) : Tri (cmpV p t q u) (cmpV q u r v) (cmpV p t r v) := by
  have n := max p.length (max q.length r.length)
  rw [cmpV_at p t q u (max p.length (max q.length r.length)) (by omega) (by omega), cmpV_at q u r v (max p.length (max q.length r.length)) (by omega) (by omega), cmpV_at p t r v (max p.length (max q.length r.length)) (by omega) (by omega)]
  exact lex_tri (fd_sgn _ _ _ _) (fd_sgn _ _ _ _) (fd_sgn _ _ _ _) (fd_tri _ _ _ _ _) (cmpT_tri _ _ _)
theorem cmpV_self (p : List Int) (t : ByteArray) : cmpV p t p t = 0 := by
  have := cmpV_neg p t p t
  omega
theorem compare_at {p : List Int} {t : ByteArray} {q : List Int} {u : ByteArray} (hp : p.length ≤ 140737488355328) (hq : q.length ≤ 140737488355328) (ht : t.size ≤ 9223372036854775807) (hu : u.size ≤ 9223372036854775807) : version_Compare.f p t q u = some (cmpV p t q u) := by
  unfold version_Compare.f version_ranked_against.f fits
  simp [hp, hq, ht, hu]
theorem orders_pure (p : List Int) (t : ByteArray) (q : List Int) (u : ByteArray) (r : List Int) (v : ByteArray) (hp : p.length ≤ 140737488355328) (hq : q.length ≤ 140737488355328) (hr : r.length ≤ 140737488355328) (ht : t.size ≤ 9223372036854775807) (hu : u.size ≤ 9223372036854775807) (hv : v.size ≤ 9223372036854775807) :
    sutlerlaw17_VersionOrders.f 1 p t q u r v = some true := by
  have hneg := cmpV_neg p t q u
  have htri := cmpV_tri p t q u r v
  have sx := cmpV_sgn p t q u; have sy := cmpV_sgn q u r v; have sz := cmpV_sgn p t r v
  simp only [sutlerlaw17_VersionOrders.f, works_true, Option.bind_some, if_true, compare_at hp hq ht hu, compare_at hq hr hu hv, compare_at hp hr ht hv, compare_at hq hp hu ht, compare_at hp hp ht ht, cmpV_self, hneg]
  generalize cmpV p t q u = x at *
  generalize cmpV q u r v = y at *
  generalize cmpV p t r v = z at *
  obtain ⟨l, rr, lt, gt⟩ := htri
  unfold Sgn at sx sy sz
  rcases sx with rfl | rfl | rfl <;> rcases sy with rfl | rfl | rfl <;> rcases sz with rfl | rfl | rfl <;> first | decide +kernel | (exfalso; revert l rr lt gt; decide)
end Go.Proofs.YtbikimkmkchkhaaDoor.PAll
