/- slices.Insert at entries, one new entry. -/
import Derived.Test.YtcklpecjcebekaaHInsB
namespace Go.Proofs.Ytcklpecjcebekaa.PAll
open Go.RowKit Go.Shelf Go.Lib Go.Proofs.YtcklpecjcebekaaW.PrintWords Go.Proofs.YtcklpecjcebekaaW.PrintLast Go.Proofs.YtcklpecjcebekaaW.PrintMore
set_option linter.unusedVariables false
set_option linter.unusedSimpArgs false

theorem one_C {w : World} {vb : Nat} {x : S37} (hx : w.heap[vb]? = some (.cells #[.string x.f0, .int .i64 x.f1] 37 (0, 0))) : Kd.C k37 w (some ⟨vb, 0, none⟩) 1 [x] := by
  refine ⟨rfl, by decide, fun _ => ⟨_, rfl, fun j p hj => ?_⟩⟩
  cases j with
  | succ j => simp at hj
  | zero =>
    obtain rfl : x = p := by simpa using hj
    refine ⟨[.string x.f0, .int .i64 x.f1], rfl, k37_mk w x, fun i u hu => ?_⟩
    rw [add_lit, cell_row hx, ← Array.getElem?_toList, Nat.zero_mul, Nat.zero_add, Nat.zero_add]
    exact hu

set_option maxHeartbeats 4000000 in
set_option maxRecDepth 100000 in
theorem insert_end (w0 w : World) (A : Option Addr) (n c : Nat) (l : List S37) (x : S37) (vb vc : Nat) (hB : Below w0.heap.size w0 w) (hn : n = l.length) (hA : A = none ∧ n = 0 ∧ c = 0 ∨ (∃ g, A = some ⟨g, 0, none⟩) ∧ n ≤ c)
    (hR : Kd.R k37 37 w w0.heap.size (fun _ => True) (.slice A n c) l) (hl : l.length ≤ 1073741824)
    (hx : w.heap[vb]? = some (.cells #[.string x.f0, .int .i64 x.f1] 37 (0, 0))) :
    Calls Try.prog 30 #[.slice A n c, .int .i64 (n : Int), .slice (some ⟨vb, 0, none⟩) 1 vc] w fun e w' =>
      ∃ v1, e = .returned v1 ∧ Kd.R k37 37 w' w0.heap.size (fun _ => True) v1 (l ++ [x]) ∧ Below w0.heap.size w0 w' := by
  have HR := Aside0.mk hR
  have HC := Aside0.mk (one_C hx)
  have HB := Aside0.mk hB
  have HL := Aside0.mk hl
  have HN := Aside0.mk hn
  have hb0 : w0.heap.size ≤ w.heap.size := hB.size
  have hz := Try.sizeOf37
  clear hR hx hB hl
  rcases hA with ⟨rfl, rfl, rfl⟩ | ⟨⟨g, rfl⟩, hc⟩
  · clear hn
    go_enter Try.func30, Try.ntmps30
    go_wp2_with ((with_reducible refine gate_builtin (b := .append) (xs := #[.tmp 23, .tmp 24]) rfl ?_); at_builtin; refine Kd.R_append_rows k37 (w0 := w0) w0.heap.size rfl (.tmp 23) (.tmp 24) 22 37 (.agg #[(.string ⟨#[]⟩), (.int .i64 0)]) 24 rfl Try.underlying22 info37 rfl (by decide) (by omega) (.slice none 0 0) l [x] _ _ _ (fun _ => True) (fun _ => False) rfl rfl HR.out HC.out (fun _ _ h => h) (fun _ h => h.elim) (fun _ _ => trivial) HB.out hb0 (by have := HL.out; omega) ?_; intro v1 w1 ho hb hg hat)
    go_ret
    exact ⟨v1, rfl, ho, hb⟩
  · have p1 : (n : Int) ≤ (c : Int) := by omega
    clear hn
    go_enter Try.func30, Try.ntmps30
    go_wp2_with ((with_reducible refine gate_builtin (b := .append) (xs := #[.tmp 23, .tmp 24]) rfl ?_); at_builtin; refine Kd.R_append_rows k37 (w0 := w0) w0.heap.size rfl (.tmp 23) (.tmp 24) 22 37 (.agg #[(.string ⟨#[]⟩), (.int .i64 0)]) 24 rfl Try.underlying22 info37 rfl (by decide) (by omega) (.slice (some ⟨g, 0, none⟩) n c) l [x] _ _ _ (fun _ => True) (fun _ => False) rfl rfl HR.out HC.out (fun _ _ h => h) (fun _ h => h.elim) (fun _ _ => trivial) HB.out hb0 (by have := HL.out; omega) ?_; intro v1 w1 ho hb hg hat)
    all_goals go_ret
    all_goals exact ⟨v1, rfl, ho, hb⟩

/-- slices.Insert(s, k, x), s of the call's own. -/
theorem insert_calls (w0 w : World) (v : Value) (l : List S37) (k : Nat) (x : S37) (vb vc : Nat) (hB : Below w0.heap.size w0 w)
    (hR : Kd.R k37 37 w w0.heap.size (fun _ => True) v l) (hk : k ≤ l.length) (hl : l.length ≤ 1073741824)
    (hx : w.heap[vb]? = some (.cells #[.string x.f0, .int .i64 x.f1] 37 (0, 0))) (hvb : v.ownBlock ≠ some vb) :
    Calls Try.prog 30 #[v, .int .i64 (k : Int), .slice (some ⟨vb, 0, none⟩) 1 vc] w fun e w' =>
      ∃ v1, e = .returned v1 ∧ Kd.R k37 37 w' w0.heap.size (fun _ => True) v1 (l.take k ++ x :: l.drop k) ∧ Below w0.heap.size w0 w' := by
  have hown := own_of_R hR
  by_cases hke : k = l.length
  · have e : l.take k ++ x :: l.drop k = l ++ [x] := by rw [hke, List.take_length, List.drop_length]
    rw [e, hke]
    rcases hown.2 with ⟨rfl, h0⟩ | ⟨g, cap, cur, rfl, h1, h2, h3, h4, h5, h6⟩
    · have hl0 : l.length = 0 := h0
      rw [hl0]
      exact insert_end w0 w none 0 0 l x vb vc hB hl0.symm (.inl ⟨rfl, rfl, rfl⟩) hR hl hx
    · exact insert_end w0 w _ _ _ l x vb vc hB rfl (.inr ⟨⟨g, rfl⟩, h3⟩) hR hl hx
  · have hkl : k < l.length := by omega
    rcases hown.2 with ⟨rfl, h0⟩ | ⟨g, cap, cur, rfl, h1, h2, h3, h4, h5, h6⟩
    · have hl0 : l.length = 0 := h0
      omega
    · have hne : vb ≠ g := by rintro rfl; exact hvb rfl
      by_cases hroom : l.length + 1 ≤ cap
      · refine (insert_room w g cap cur l k x vb vc h2 hkl hroom h4 h5 h6 hx hne).mono ?_
        rintro e w' ⟨rfl, cur', rfl, hs, ht⟩
        have hlen : (l.take k ++ x :: l.drop k).length = l.length + 1 := by simp; omega
        refine ⟨_, rfl, R_of_own ⟨by rw [cellsOf_length], .inr ⟨g, cap, cur', by rw [hlen], h1, setRow_heap w.drew g cur cur' 37 _ h2, by rw [hlen]; exact hroom, h4, hs, by rw [hlen]; exact ht⟩⟩, below_setRow (below_drew1 hB) h1 _⟩
      · refine (insert_grow w g cap cur l k x vb vc h2 hkl h3 (by omega) hl h5 h6 hx).mono ?_
        rintro e w' ⟨c2, cur', rfl, hh, hc1, hc2, hs, ht, hb⟩
        have hlen : (l.take k ++ x :: l.drop k).length = l.length + 1 := by simp; omega
        exact ⟨_, rfl, R_of_own ⟨by rw [cellsOf_length], .inr ⟨w.heap.size, c2, cur', by rw [hlen], hB.size, hh, by rw [hlen]; exact hc1, hc2, hs, by rw [hlen]; exact ht⟩⟩, hB.trans (hb.mono hB.size)⟩
#print axioms insert_calls
end Go.Proofs.Ytcklpecjcebekaa.PAll
