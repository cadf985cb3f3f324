/- Versions that are ones, parted, printed: plain Lean (seat D's text, turned). -/
import Derived.Test.YtbikimkmkchkhaaGreatDoorMAVer
import Derived.Test.YtbikimkmkchkhaaGreatDoorMAPAllx79
import Derived.Test.YtbikimkmkchkhaaGreatDoorMAPAllx93
import Derived.Test.YtbikimkmkchkhaaGreatDoorMAPAllx85
namespace Go.Proofs.YtbikimkmkchkhaaGreatDoor.PAll
open Go.RowKit Go.Lib Go.Proofs.YtbikimkmkchkhaaGreatDoor Go.Proofs.YtbikimkmkchkhaaGreatDoor.Ver Go.Proofs.YtbikimkmkchkhaaGreatDoorW.PrintWords Go.Proofs.YtbikimkmkchkhaaGreatDoorW.PrintLast Go.Proofs.YtbikimkmkchkhaaGreatDoorW.PrintMore
set_option linter.unusedVariables false
set_option linter.unusedSimpArgs false

theorem works_true : sutlerlaw17_works.f = some true := by decide +kernel
theorem Ev.succ {α : Type} {g : Nat → Option α} {r : α} (h : Ev (fun k => g (k + 1)) r) : Ev g r := Ev.step (fun _ => rfl) h
theorem Ev.pos {α : Type} {c : Prop} [Decidable c] {A B : Nat → Option α} {r : α} (h : c) (k : Ev A r) : Ev (fun k => if c then A k else B k) r := by simpa [h] using k
theorem Ev.neg {α : Type} {c : Prop} [Decidable c] {A B : Nat → Option α} {r : α} (h : ¬ c) (k : Ev B r) : Ev (fun k => if c then A k else B k) r := by simpa [h] using k
theorem Ev.val {α : Type} (r : α) : Ev (fun _ => Option.some r) r := ⟨0, fun _ _ => rfl⟩
theorem wrap_succ {i n : Nat} (hn : n ≤ 140737488355328) (h : i < n) : wrap64 ((i : Int) + 1) = ((i + 1 : Nat) : Int) := by unfold wrap64; omega

theorem data_eq {a b : ByteArray} (h : a.data.toList = b.data.toList) : a = b := ByteArray.ext (Array.ext' h)
/-! ### a version that is one -/
structure GoodV (l : List Int) (t : ByteArray) : Prop where
  l1 : 1 ≤ l.length
  l4 : l.length ≤ 4
  rng : ∀ n ∈ l, 0 ≤ n ∧ n ≤ 999999
  t8 : t.size ≤ 8
  tl : ∀ c ∈ t.data.toList, c ∈ letters.data.toList
theorem idxOdd_neg {l : List Int} : idxOdd l < 0 ↔ ∀ n ∈ l, 0 ≤ n ∧ n ≤ 999999 := by
  unfold idxOdd
  cases h : l.findIdx? oddB with
  | none =>
    rw [List.findIdx?_eq_none_iff] at h
    refine ⟨fun _ n hn => ?_, fun _ => by simp⟩
    have := h n hn
    unfold oddB at this
    simp at this
    omega
  | some i =>
    simp only []
    refine ⟨fun h => by omega, fun hall => ?_⟩
    rw [List.findIdx?_eq_some_iff_getElem] at h
    obtain ⟨hi, hp, _⟩ := h
    have := hall _ (List.getElem_mem hi)
    unfold oddB at hp
    simp at hp
    omega
theorem trim_nil (L cs : List UInt8) : Lib.trimS L cs = [] ↔ ∀ c ∈ L, c ∈ cs := by
  unfold Lib.trimS Lib.trimLeftS Lib.trimRightS
  have dw : ∀ (p : UInt8 → Bool) (l : List UInt8), l.dropWhile p = [] ↔ ∀ x ∈ l, p x = true := fun p l => by
    induction l with
    | nil => simp
    | cons b l ih =>
      rw [List.dropWhile_cons]
      by_cases h : p b = true
      · rw [if_pos h, ih]; simp [h]
      · rw [if_neg h]; simp [h]
  constructor
  · intro h x hx
    rw [dw] at h
    by_cases hn : L.reverse.dropWhile (cs.contains ·) = []
    · rw [dw] at hn
      simpa using hn x (by simpa using hx)
    · have hh := List.head_dropWhile_not (cs.contains ·) hn
      have := h _ (by rw [List.mem_reverse]; exact List.head_mem hn)
      rw [hh] at this
      cases this
  · intro h
    rw [dw]
    intro x hx
    rw [List.mem_reverse] at hx
    have := (List.dropWhile_sublist (cs.contains ·)).subset hx
    rw [List.mem_reverse] at this
    simpa using h x this
theorem tailB_iff (t : ByteArray) : tailB t = true ↔ t.size ≤ 8 ∧ ∀ c ∈ t.data.toList, c ∈ letters.data.toList := by
  unfold tailB trimmed
  rw [Bool.and_eq_true, decide_eq_true_eq, List.isEmpty_iff, ByteArray.toList_eq, trim_nil]
theorem goodV_iff (l : List Int) (t : ByteArray) : badV l t = false ↔ GoodV l t := by
  unfold badV
  simp only [Bool.or_eq_false_iff, decide_eq_false_iff_not, Bool.not_eq_false']
  constructor
  · rintro ⟨⟨⟨h1, h2⟩, h3⟩, h4⟩
    have := (tailB_iff t).1 h4
    exact ⟨by omega, by omega, idxOdd_neg.1 (by omega), this.1, this.2⟩
  · intro g
    have := idxOdd_neg.2 g.rng
    have l1 := g.l1; have l4 := g.l4
    exact ⟨⟨⟨by omega, by omega⟩, by omega⟩, (tailB_iff t).2 ⟨g.t8, g.tl⟩⟩
/-! ### cutting -/
theorem cut_yes {P T : List UInt8} (h : (45 : UInt8) ∉ P) : Lib.cut (P ++ 45 :: T) [45] = (P, T, true) := by
  have hi : Lib.index (P ++ 45 :: T) [45] = (P.length : Int) := by
    rw [index_one]
    induction P with
    | nil => simp [indexByte]
    | cons a P ih =>
      have h1 : ¬ a = 45 := fun e => h (by simp [e])
      have h2 := ih (fun e => h (List.mem_cons_of_mem _ e))
      show indexByte (a :: (P ++ 45 :: T)) 45 = _
      unfold indexByte
      rw [if_neg (by simpa using h1), h2, if_neg (by simp)]
      simp
  unfold Lib.cut
  rw [hi, if_pos (by omega)]
  simp
theorem cut_no {P : List UInt8} (h : (45 : UInt8) ∉ P) : Lib.cut P [45] = (P, [], false) := by
  have hi : Lib.index P [45] = -1 := by
    rw [index_one]
    have hg := indexByte_ge P 45
    by_cases e : indexByte P 45 = -1
    · exact e
    · obtain ⟨o, ho⟩ := Int.eq_ofNat_of_zero_le (by omega : 0 ≤ indexByte P 45)
      exact absurd (List.mem_of_getElem? (indexByte_some ho).1) h
  unfold Lib.cut
  rw [hi, if_neg (by decide)]
theorem cut_cases (s : List UInt8) : ((Lib.cut s [45]).2.2 = true ∧ s = (Lib.cut s [45]).1 ++ 45 :: (Lib.cut s [45]).2.1) ∨ ((Lib.cut s [45]).2.2 = false ∧ (Lib.cut s [45]).2.1 = [] ∧ s = (Lib.cut s [45]).1) := by
  unfold Lib.cut
  split
  · rename_i h
    left
    obtain ⟨o, ho⟩ := Int.eq_ofNat_of_zero_le h
    have hb : indexByte s 45 = o := by rw [← index_one]; exact ho
    obtain ⟨h1, _⟩ := indexByte_some hb
    have hlt : o < s.length := (List.getElem?_eq_some_iff.1 h1).1
    have e : s[o] = 45 := by rw [List.getElem?_eq_getElem hlt] at h1; exact Option.some.inj h1
    refine ⟨rfl, ?_⟩
    simp only [ho, Int.toNat_natCast, List.length_singleton]
    conv => lhs; rw [← List.take_append_drop o s, List.drop_eq_getElem_cons hlt, e]
  · exact Or.inr ⟨rfl, rfl, rfl⟩
/-! ### pieces -/
theorem piece_num {x : ByteArray} {n : Int} (h : x.data.toList = Lib.itoa n) (h0 : 0 ≤ n) (h1 : n ≤ 999999) : pieceV x = some n := by
  obtain ⟨u, rfl⟩ := Int.eq_ofNat_of_zero_le h0
  rw [itoa_nonneg] at h
  unfold pieceV
  rw [h, atoi_dd u (by omega)]
  simp only [itoa_nonneg, if_true]
theorem pieces_num : ∀ (ps : List ByteArray) (l : List Int), lists ps = l.map Lib.itoa → (∀ n ∈ l, 0 ≤ n ∧ n ≤ 999999) → piecesV ps = some l
  | [], [], _, _ => rfl
  | [], a :: l, h, _ => by simp [lists] at h
  | p :: ps, [], h, _ => by simp [lists] at h
  | p :: ps, a :: l, h, hr => by
    simp only [lists, List.map_cons, List.cons.injEq] at h
    have ha := hr a (by simp)
    rw [piecesV, piece_num h.1 ha.1 ha.2, pieces_num ps l h.2 (fun n hn => hr n (List.mem_cons_of_mem _ hn))]
    rfl
theorem piece_is {x : ByteArray} {n : Int} (h : pieceV x = some n) : x.data.toList = Lib.itoa n := by
  unfold pieceV at h
  split at h
  · split at h
    · rename_i hh
      have := Option.some.inj h
      subst this
      exact hh.symm
    · cases h
  · cases h
theorem pieces_is : ∀ {ps : List ByteArray} {l : List Int}, piecesV ps = some l → lists ps = l.map Lib.itoa
  | [], l, h => by simp only [piecesV, Option.some.injEq] at h; subst h; rfl
  | p :: ps, l, h => by
    simp only [piecesV, Option.bind_eq_some_iff, Option.map_eq_some_iff] at h
    obtain ⟨v, hv, ws, hw, rfl⟩ := h
    simp only [lists, List.map_cons]
    rw [piece_is hv]
    congr 1
    exact pieces_is hw
theorem parts_split (f : ByteArray) : lists (partsOf f) = splitC 46 f.data.toList := split_eq _ f rfl
/-! ### printing -/
def printL (l : List Int) (t : ByteArray) : List UInt8 := Lib.join (l.map Lib.itoa) [46] ++ (if t.data.toList = [] then [] else 45 :: t.data.toList)
def printV (l : List Int) (t : ByteArray) : ByteArray := ⟨(printL l t).toArray⟩
theorem itoa_no {n : Int} (h0 : 0 ≤ n) (c : UInt8) (hc : c.toNat < 48) : c ∉ Lib.itoa n := by
  obtain ⟨u, rfl⟩ := Int.eq_ofNat_of_zero_le h0
  rw [itoa_nonneg]
  intro h
  have := (dd_digs u c h).1
  omega
theorem join_no {c d : UInt8} (hcd : d ≠ c) : ∀ xs : List (List UInt8), (∀ x ∈ xs, d ∉ x) → d ∉ Lib.join xs [c]
  | [], _ => by rw [join_nil]; simp
  | [x], h => by rw [join_one]; exact h x (by simp)
  | x :: y :: r, h => by
    rw [join_cons2]
    intro hm
    rcases List.mem_append.1 hm with hm | hm
    · exact h x (by simp) hm
    · rcases List.mem_cons.1 hm with hm | hm
      · exact hcd hm
      · exact join_no hcd (y :: r) (fun z hz => h z (List.mem_cons_of_mem _ hz)) hm
theorem parse_print {l : List Int} {t : ByteArray} (g : GoodV l t) : parseV (printV l t) = (l, t, 0) := by
  have hne : l.map Lib.itoa ≠ [] := by
    have := g.l1
    intro h
    have := congrArg List.length h
    simp at this
    subst this
    simp at *
  have h46 : ∀ x ∈ l.map Lib.itoa, (46 : UInt8) ∉ x := fun x hx => by
    obtain ⟨n, hn, rfl⟩ := List.mem_map.1 hx
    exact itoa_no (g.rng n hn).1 46 (by decide)
  have h45 : (45 : UInt8) ∉ Lib.join (l.map Lib.itoa) [46] := join_no (by decide) _ (fun x hx => by
    obtain ⟨n, hn, rfl⟩ := List.mem_map.1 hx
    exact itoa_no (g.rng n hn).1 45 (by decide))
  have hd : (printV l t).data.toList = printL l t := rfl
  have hcut : Lib.cut (printL l t) [45] = (Lib.join (l.map Lib.itoa) [46], t.data.toList, decide (t.data.toList ≠ [])) := by
    unfold printL
    by_cases h : t.data.toList = []
    · rw [if_pos h, List.append_nil, cut_no h45]
      simp [h]
    · rw [if_neg h, cut_yes h45, decide_eq_true (show t.data.toList ≠ [] from h)]
  have hf : frontOf (printV l t) = ⟨(Lib.join (l.map Lib.itoa) [46]).toArray⟩ := by unfold frontOf; rw [hd, hcut]
  have hu : tailOf (printV l t) = t := by unfold tailOf; rw [hd, hcut]
  have hb : isCut (printV l t) = decide (t.data.toList ≠ []) := by unfold isCut; rw [hd, hcut]
  have hps : piecesV (partsOf (frontOf (printV l t))) = some l := by
    refine pieces_num _ _ ?_ g.rng
    rw [parts_split, hf]
    exact split_join 46 _ hne h46
  unfold parseV
  rw [hps]
  simp only []
  rw [hu, hb, (goodV_iff l t).2 g, if_neg]
  rw [ByteArray.toList_eq]
  cases hl : t.data.toList <;> simp
theorem print_parse {s : ByteArray} {l : List Int} {u : ByteArray} (h : parseV s = (l, u, 0)) : GoodV l u ∧ printV l u = s := by
  unfold parseV at h
  split at h
  · exact absurd (show (170 : Int) = 0 from congrArg (fun x => x.2.2) h) (by decide)
  · rename_i vs hps
    split at h
    · exact absurd (show (170 : Int) = 0 from congrArg (fun x => x.2.2) h) (by decide)
    · rename_i hc
      simp only [Prod.mk.injEq, and_true] at h
      obtain ⟨rfl, rfl⟩ := h
      simp only [Bool.or_eq_true, not_or, Bool.not_eq_true] at hc
      refine ⟨(goodV_iff _ _).1 hc.2, ?_⟩
      have hp := pieces_is hps
      rw [parts_split] at hp
      have hj : Lib.join (vs.map Lib.itoa) [46] = (frontOf s).data.toList := by rw [← hp, join_split]
      apply data_eq
      show printL vs (tailOf s) = s.data.toList
      unfold printL
      rw [hj]
      have hF : (frontOf s).data.toList = (Lib.cut s.data.toList [45]).1 := rfl
      have hT : (tailOf s).data.toList = (Lib.cut s.data.toList [45]).2.1 := rfl
      rw [hF, hT]
      rcases cut_cases s.data.toList with ⟨h1, h2⟩ | ⟨h1, h2, h3⟩
      · have hn : ¬ (Lib.cut s.data.toList [45]).2.1 = [] := by
          intro e
          have hc1 := hc.1
          have : isCut s = true := h1
          rw [this, Bool.true_and, ByteArray.toList_eq, hT, e] at hc1
          simp at hc1
        rw [if_neg hn]; exact h2.symm
      · rw [if_pos h2, List.append_nil]; exact h3.symm
theorem check_at {l : List Int} {t : ByteArray} (hl : l.length ≤ 140737488355328) (ht : t.size ≤ 9223372036854775807) : version_Check.f l t = some (chkV l t) := by
  unfold version_Check.f; rw [if_pos (by simp [hl, ht])]
theorem itoa_len {n : Int} (h0 : 0 ≤ n) (h1 : n ≤ 999999) : (Lib.itoa n).length ≤ 21 := itoa_length_le n (by omega) (by omega)
theorem join_len (c : UInt8) : ∀ xs : List (List UInt8), (∀ x ∈ xs, x.length ≤ 21) → (Lib.join xs [c]).length ≤ 22 * xs.length
  | [], _ => by rw [join_nil]; simp
  | [x], h => by rw [join_one]; have := h x (by simp); simp; omega
  | x :: y :: r, h => by
    rw [join_cons2, List.length_append, List.length_cons]
    have h1 := h x (by simp)
    have h2 := join_len c (y :: r) (fun z hz => h z (List.mem_cons_of_mem _ hz))
    simp only [List.length_cons] at h2 ⊢
    omega
theorem print_l0 {l : List Int} {t : ByteArray} (g : GoodV l t) : ∀ (m i : Nat), l.length - i = m → i ≤ l.length → Ev (fun k => version_Print.l0 k ((l.take i).map itoaS) l (l.length : Int) (i : Int) l t) (printV l t, 0)
  | 0, i, hm, hi => by
    obtain rfl : i = l.length := by have := g.l4; omega
    have hl4 := g.l4; have ht8 := g.t8
    have e : (l.map itoaS).map (fun b : ByteArray => b.data.toList) = l.map Lib.itoa := by rw [List.map_map]; rfl
    have hjl : (Lib.join (l.map Lib.itoa) [46]).length ≤ 22 * 4 := by
      have := join_len 46 (l.map Lib.itoa) (fun x hx => by
        obtain ⟨n, hn, rfl⟩ := List.mem_map.1 hx
        exact itoa_len (g.rng n hn).1 (g.rng n hn).2)
      rw [List.length_map] at this
      omega
    have hj : strings_Join.f ((l.take l.length).map itoaS) ⟨#[46]⟩ = some ⟨(Lib.join (l.map Lib.itoa) [46]).toArray⟩ := by
      rw [List.take_length]
      unfold strings_Join.f joinFits joinS
      rw [e]
      have e2 : (⟨#[46]⟩ : ByteArray).data.toList = [46] := rfl
      rw [e2, if_pos (by simp; omega)]
    refine Ev.succ ?_
    simp only [version_Print.l0, hj, Option.bind_some]
    refine Ev.neg (by omega) ?_
    by_cases h : t.toList = []
    · refine Ev.pos h ?_
      have : (⟨(Lib.join (l.map Lib.itoa) [46]).toArray⟩ : ByteArray) = printV l t := by
        apply data_eq
        show Lib.join (l.map Lib.itoa) [46] = printL l t
        unfold printL
        rw [if_pos (by rw [← ByteArray.toList_eq]; exact h), List.append_nil]
      rw [this]; exact Ev.val _
    · refine Ev.neg h ?_
      have hsz : (⟨(Lib.join (l.map Lib.itoa) [46]).toArray⟩ : ByteArray).size = (Lib.join (l.map Lib.itoa) [46]).length := List.size_toArray
      refine Ev.pos (by omega) (Ev.pos (by rw [hsz, ByteArray.size_append]; have : (⟨#[45]⟩ : ByteArray).size = 1 := rfl; omega) ?_)
      have : (⟨(Lib.join (l.map Lib.itoa) [46]).toArray⟩ : ByteArray) ++ ((⟨#[45]⟩ : ByteArray) ++ t) = printV l t := by
        apply data_eq
        rw [ByteArray.data_append, ByteArray.data_append, Array.toList_append, Array.toList_append]
        show Lib.join (l.map Lib.itoa) [46] ++ ([45] ++ t.data.toList) = printL l t
        unfold printL
        rw [if_neg (by rw [← ByteArray.toList_eq]; exact h)]
        rfl
      rw [this]; exact Ev.val _
  | m + 1, i, hm, hi => by
    have hl4 := g.l4
    have hlt : i < l.length := by omega
    have hr := g.rng _ (List.getElem_mem hlt)
    have hrd : rd l (i : Int) = l[i] := by simp [rd, List.getD_eq_getElem?_getD, List.getElem?_eq_getElem hlt]
    have hit : strconv_Itoa_16.f (rd l (i : Int)) = some (itoaS l[i]) := by
      unfold strconv_Itoa_16.f
      rw [hrd, if_pos (by simp; omega)]
    have e : (l.take i).map itoaS ++ [itoaS l[i]] = (l.take (i + 1)).map itoaS := by rw [List.take_succ_eq_append_getElem hlt, List.map_append]; rfl
    refine Ev.succ ?_
    simp only [version_Print.l0, hit, Option.bind_some, e, wrap_succ (n := l.length) (by omega) hlt]
    refine Ev.pos (by omega) (Ev.pos (by omega) (Ev.pos (by omega) (Ev.pos ?_ (print_l0 g m (i + 1) (by omega) (by omega)))))
    rw [List.length_map, List.length_take]; omega
theorem print_ok {l : List Int} {t : ByteArray} (g : GoodV l t) : Ev (fun k => version_Print.f k l t) (printV l t, 0) := by
  have h4 := g.l4; have h8 := g.t8
  unfold version_Print.f
  rw [check_at (by omega) (by omega)]
  have hc : chkV l t = 0 := by unfold chkV; rw [(goodV_iff l t).2 g]; rfl
  simp only [Option.bind_some]
  exact Ev.pos hc (print_l0 g _ 0 rfl (by omega))
theorem print_bad {l : List Int} {t : ByteArray} (hl : l.length ≤ 140737488355328) (ht : t.size ≤ 9223372036854775807) (h : badV l t = true) : Ev (fun k => version_Print.f k l t) (⟨#[]⟩, 170) := by
  unfold version_Print.f
  rw [check_at hl ht]
  have hc : chkV l t = 170 := by unfold chkV; rw [h]; rfl
  simp only [Option.bind_some]
  refine Ev.neg (by rw [hc]; decide) ?_
  rw [hc]; exact Ev.val _
theorem same_ints (l : List Int) (hl : l.length ≤ 140737488355328) : ∀ (m i : Nat), l.length - i = m → i ≤ l.length → Ev (fun k => sutlerbase_SameInts.l0 k l l (i : Int)) true
  | 0, i, hm, hi => by
    refine Ev.succ ?_
    simp only [sutlerbase_SameInts.l0]
    exact Ev.neg (by omega) (Ev.val _)
  | m + 1, i, hm, hi => by
    have hlt : i < l.length := by omega
    refine Ev.succ ?_
    simp only [sutlerbase_SameInts.l0, wrap_succ hl hlt]
    exact Ev.pos (by omega) (Ev.pos (by omega) (Ev.pos (by omega) (Ev.pos trivial (same_ints l hl m (i + 1) (by omega) (by omega)))))
theorem same_version (l : List Int) (t : ByteArray) (hl : l.length ≤ 140737488355328) : Ev (fun k => sutlerbase_SameVersion.f k l t l t) true := by
  unfold sutlerbase_SameVersion.f sutlerbase_SameInts.f
  refine Ev.pos rfl ?_
  have h1 : Ev (fun k => if (l.length : Int) = (l.length : Int) then sutlerbase_SameInts.l0 k l l 0 else some false) true := Ev.pos rfl (same_ints l hl _ 0 rfl (by omega))
  exact Ev.bind (f := fun _ t198 => some t198) h1 (Ev.val _)
theorem parse_at {s : ByteArray} (hs : s.size < 4294967281) : version_Parse.f s = some (parseV s) := by unfold version_Parse.f; rw [if_pos hs]
theorem printV_size {l : List Int} {t : ByteArray} (g : GoodV l t) : (printV l t).size < 4294967281 := by
  have h4 := g.l4; have h8 := g.t8
  have e : t.data.toList.length = t.size := Array.length_toList
  show (printL l t).toArray.size < _
  rw [List.size_toArray]
  unfold printL
  have := join_len 46 (l.map Lib.itoa) (fun x hx => by
    obtain ⟨n, hn, rfl⟩ := List.mem_map.1 hx
    exact itoa_len (g.rng n hn).1 (g.rng n hn).2)
  rw [List.length_map] at this
  rw [List.length_append]
  split
  · simp; omega
  · simp; omega
theorem parseV_err (s : ByteArray) : (parseV s).2.2 = 0 ∨ parseV s = badP := by
  unfold parseV
  split
  · exact Or.inr rfl
  · split
    · exact Or.inr rfl
    · exact Or.inl rfl
end Go.Proofs.YtbikimkmkchkhaaGreatDoor.PAll
