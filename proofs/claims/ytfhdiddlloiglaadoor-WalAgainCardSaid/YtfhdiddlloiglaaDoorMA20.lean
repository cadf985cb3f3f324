/- Texts of this claim, one behind the other: G15, G16, G17, G18, G19, G20, G21, G22, G23, G24. -/
import Derived.Test.YtfhdiddlloiglaaDoorMA19
import Derived.Shelf.SlSortCmp.NoneTotal
import Derived.Test.YtfhdiddlloiglaaDoorMA15
import Derived.Test.YtfhdiddlloiglaaDoorMA2
import Derived.Lib.QuietBelow
section
/- Blocks are cloned and sorted. -/
namespace Go.Proofs.YtfhdiddlloiglaaDoor
open Go.RowKit Go.Proofs.YtfhdiddlloiglaaDoorW.PrintWords Go.Shelf Go.Lib
attribute [local go_sem ↓] Go.wp_at_zero Go.wp_at_succ
set_option linter.unusedVariables false
set_option linter.unusedSimpArgs false
set_option maxRecDepth 100000

/-- A slice type and its elements. -/
structure Elt (ty e : TypeId) (size by_ : Nat) : Prop where
  und : Tryd.prog.underlying ty = some (.slice e)
  inf : ∃ i z, Tryd.prog.info? e = some i ∧ i.zero = some z ∧ i.size = size ∧ i.bytes = by_ ∧ z.cells.size = size
  pos : 0 < size
theorem Elt.mk' {ty e : TypeId} {size by_ : Nat} {z : Value} (h1 : Tryd.prog.underlying ty = some (.slice e)) (h2 : (Tryd.prog.info? e).map (fun i => (i.zero, i.size, i.bytes)) = some (some z, size, by_)) (h3 : z.cells.size = size) (h4 : 0 < size) : Elt ty e size by_ := by
  refine ⟨h1, ?_, h4⟩
  cases hi : Tryd.prog.info? e with
  | none => rw [hi] at h2; cases h2
  | some i =>
    rw [hi] at h2
    simp only [Option.map_some, Option.some.injEq, Prod.mk.injEq] at h2
    exact ⟨i, z, rfl, h2.1, h2.2.1, h2.2.2, h3⟩
theorem eltB : Elt 35 48 2 32 := Elt.mk' (z := .agg #[.int .i64 0, .slice none 0 0]) Tryd.underlying35 (by kernel_rfl) rfl (by decide)
section
variable {w0 w : World} {p lp : Nat} {t : Int} {d : Dsk} {L : List Res}
/-- append to a row of one's own. -/
theorem St.appE {ty e : TypeId} {size by_ : Nat} (E : Elt ty e size by_) {v : Value} {n : Nat} {xs : List Value} (H : St w0 w (rRow e size v n xs :: L)) (a : Addr) (m c : Nat) (news : List Value) (hl : news.length = m * size) (hc : ∀ j u, news[j]? = some u → w.cell? (a.add j) = some u)
    (h1 : ∀ u ∈ news, u.oneCell' = true) (h63 : n + m ≤ 9223372036854775807) (hb : (n + m) * by_ ≤ 140737488355328) :
    ∃ v' w1, AppRunT ty v (.slice (some a) m c) w v' w1 ∧ St w0 w1 (rRow e size v' (n + m) (xs ++ news) :: L) := by
  obtain ⟨i0, z, hi, hz0, hz1, hz2, hz3⟩ := E.inf
  obtain ⟨v', w1, h1, h2, h3, h4, h5⟩ := run_append_own_at (w := w) (P := Tryd.prog) (t := ty) (ty := ty) (e := e) (base := 0) (i := i0) (z := z) (size := size) (bytes := by_) (ht := E.und) (hi := hi) (hz := hz0) (hsize := hz1) (hby := hz2) (hzs := hz3) (hsz := E.pos) (v := v) (n := n) (xs := xs) (hown := H.row) (a := a) (m := m) (c := c) (news := news) (hl := hl) (hnews := hc) (h1 := h1) (h63 := by simp only [maxLen]; omega) (hbytes := hb) (hbase := Nat.zero_le _)
  exact ⟨v', w1, ⟨h1⟩, H.setRow h2 h3 (h5.imp_right fun e k hk => by rw [e] at hk; injection hk with hk; omega)⟩
/-- A new row, nothing in it. -/
theorem St.newRow (H : St w0 w L) (e : TypeId) (size : Nat) : St w0 (w.alloc (.cells #[] e)) (rRow e size (.slice (some ⟨w.heap.size, 0, none⟩) 0 0) 0 [] :: L) :=
  H.gainRow ((Below.refl _ _).alloc (Nat.le_refl _) _) (World.ownsRow_made w #[] 0 (Nat.le_refl _) (by simp [maxLen]) (by simp))
theorem rRow_dat {e : TypeId} {size : Nat} {g n c : Nat} {xs : List Value} (H : St w0 w (rRow e size (.slice (some ⟨g, 0, none⟩) n c) n xs :: L)) : ∀ j u, xs[j]? = some u → w.cell? ((⟨g, 0, none⟩ : Addr).add j) = some u := H.row.cells rfl
section
variable {ops : Array Oper} {o : Oper} {a : Act} {W : World} {Q : Exit → Act → World → Prop} {rest : List Oper}
theorem wpl_appT {ty : TypeId} (hg : o.guard = none) (s x : Operand) (hop : o.op = Op.call { callee := Callee.builtin Builtin.append, args := #[s, x], argTypes := #[ty, ty] }) (hty : o.type = ty) {v u v' : Value} {w' : World} (hrun : AppRunT ty v u W v' w') (hs : a.eval s = v) (hx : a.eval x = u)
    (hK : wpList Tryd.prog ops Q rest (a.put o.dst v') w') : wpList Tryd.prog ops Q (o :: rest) a W := by
  refine wpList_plain hg fun K hKK => ?_
  unfold Oper.wp execOp
  simp only [hop, resolve, invoke, builtin, Sem.run_bind, Sem.run_pure, Result.andThen_ok, List.map_toArray, List.map_cons, List.map_nil, hs, hx, hty, hrun.out]
  exact hKK _ _ hK
end
theorem encB_one (l : List BE) : ∀ u ∈ encB l, u.oneCell' = true := fun u hu => by
  obtain ⟨x, _, h⟩ := List.mem_flatMap.1 hu
  simp only [List.mem_cons, List.not_mem_nil, or_false] at h
  rcases h with rfl | rfl <;> rfl
set_option maxHeartbeats 1000000 in
theorem St.cloneBlocks {A : Option Addr} {n c : Nat} {es : List BE} (H : St w0 w (rRow 48 2 (.slice A n c) n (encB es) :: L)) (hn : n ≤ 1048576) :
    Calls Tryd.prog 35 #[.slice A n c] w fun e w' => ∃ A' c', e = .returned (.slice A' n c') ∧ St w0 w' (rRow 48 2 (.slice A' n c') n (encB es) :: rRow 48 2 (.slice A n c) n (encB es) :: L) := by
  have HH := Aside0.mk H
  have hlen : (encB es).length = n * 2 := H.row.1
  cases A with
  | none =>
    obtain ⟨hv, rfl⟩ : Value.slice none n c = .slice none 0 0 ∧ n = 0 := by
      rcases H.row.2 with h | ⟨g, cap, cur, e, _⟩
      · exact h
      · cases e
    injection hv with _ _ hc
    subst hc
    have he : encB es = [] := List.length_eq_zero_iff.1 (by omega)
    have hq : ∀ w, (binOp .eql 35 (.slice none 0 0) (.slice none 0 0)).run Tryd.prog w = .ok (.bool true) w := fun w => by rw [Lib.run_eql_slice_nil (e := 48)]; rfl; exact Tryd.underlying35
    have H2 := Aside0.mk (H.emp.imp (B := rRow 48 2 (.slice none 0 0) 0 (encB es)) fun T S h _ _ => ⟨by rw [he]; exact World.ownsRow_nil _ _ _ _, fun i => ⟨fun hi => absurd hi (h i), fun h => by simp [Value.ownBlock] at h⟩⟩)
    clear H hlen he
    go_enter Tryd.func35, Tryd.ntmps35
    go_wp2
    go_ret
    exact ⟨_, _, rfl, H2.out⟩
  | some ad =>
    obtain ⟨g, rfl⟩ : ∃ g, ad = ⟨g, 0, none⟩ := by
      rcases H.row.2 with ⟨h, _⟩ | ⟨g, cap, cur, e, _⟩
      · cases h
      · injection e with e _ _; injection e with e; exact ⟨g, e⟩
    have hq : ∀ w, (binOp .eql 35 (.slice (some ⟨g, 0, none⟩) n c) (.slice none 0 0)).run Tryd.prog w = .ok (.bool false) w := fun w => by rw [Lib.run_eql_slice_nil (e := 48)]; rfl; exact Tryd.underlying35
    have hr := rRow_dat (St.swap (H.newRow 48 2))
    obtain ⟨v', w1, hrun, H1⟩ := (H.newRow 48 2).appE eltB ⟨g, 0, none⟩ n c (encB es) hlen hr (encB_one es) (by omega) (by omega)
    obtain ⟨A', c', rfl⟩ := own_slice H1.row
    rw [Nat.zero_add, List.nil_append] at H1
    have en : 0 + n = n := Nat.zero_add n
    try rw [en] at hrun
    have H1 := Aside0.mk H1
    clear H hlen hr en
    go_enter Tryd.func35, Tryd.ntmps35
    go_wp2_with (at_builtin; refine wpl_appT rfl (.tmp 5) (.tmp 6) rfl rfl hrun rfl rfl ?_)
    go_ret
    exact ⟨_, _, rfl, H1.out⟩
/-! ### sorted -/
/-- A block, and its place and bytes. -/
abbrev BX := BE × (Int × Sec)
instance : Inhabited BX := ⟨⟨0, 0, 0, 0⟩, 0, []⟩
abbrev bes (l : List BX) : List BE := l.map Prod.fst
def enc1 (x : BX) : List Value := [.int .i64 x.1.at_, .slice (some ⟨x.1.g, x.1.o, none⟩) 256 x.1.c]
theorem flat_encB (l : Array BX) : (Sort.flatK enc1 2 l).toList = encB (bes l.toList) := by
  refine List.ext_getElem (by simp [encB_len]) fun t h1 h2 => ?_
  have ht : t < l.size * 2 := by simpa using h1
  have hi : t / 2 < (bes l.toList).length := by simp; omega
  have h3 := encB_get (bes l.toList) hi
  have hb : (bes l.toList)[t / 2] = (l[t / 2]'(by omega)).1 := by simp
  rw [hb] at h3
  have e0 : (Sort.flatK enc1 2 l).toList[t] = (Sort.flatK enc1 2 l)[t]! := by
    rw [getElem!_pos _ t (by simpa using ht)]; rfl
  rw [e0, Sort.get_flatK _ _ _ t ht, getElem!_pos l (t / 2) (by omega)]
  rcases Nat.mod_two_eq_zero_or_one t with hm | hm
  · rw [hm]
    have e : t / 2 * 2 = t := by omega
    have h4 := h3.1
    rw [e] at h4
    have := List.getElem?_eq_some_iff.1 h4
    obtain ⟨_, h5⟩ := this
    rw [h5]; rfl
  · rw [hm]
    have e : t / 2 * 2 + 1 = t := by omega
    have h4 := h3.2
    rw [e] at h4
    obtain ⟨_, h5⟩ := List.getElem?_eq_some_iff.1 h4
    rw [h5]; rfl
theorem heap_sortK {w : World} {g m : Nat} {d : Array BX} {os : Array Obj} {cur : Array Value} {e : TypeId} (hg : w.heap[g]? = some (.cells cur e (0, 0))) : (sortWorldK enc1 2 w g 0 m d os).heap[g]? = some (.cells (Sort.putCells id 0 (Sort.flatK enc1 2 d) cur) e (0, 0)) := by
  have hlt : g < w.heap.size := (Array.getElem?_eq_some_iff.1 hg).1
  unfold sortWorldK Sort.putRowK Sort.putRow Sort.mapBlock Sort.grow
  show ((w.heap.modify g _) ++ os)[g]? = _
  rw [Array.getElem?_append_left (by simpa using hlt), Array.getElem?_modify, if_pos rfl, hg]
  rfl
theorem moved_sortK (w : World) (g m : Nat) (d : Array BX) (os : Array Obj) : w.grownBy (sortWorldK enc1 2 w g 0 m d os) (some g) := by
  refine ⟨rfl, rfl, rfl, ?_, fun k hk hne => ?_⟩
  · unfold sortWorldK Sort.putRowK Sort.putRow Sort.mapBlock Sort.grow
    show w.heap.size ≤ ((w.heap.modify g _) ++ os).size
    simp
  · unfold sortWorldK Sort.putRowK Sort.putRow Sort.mapBlock Sort.grow
    show ((w.heap.modify g _) ++ os)[k]? = w.heap[k]?
    rw [Array.getElem?_append_left (by simpa using hk), Array.getElem?_modify, if_neg (fun e => hne (by rw [e]))]
theorem St.sortedRow {g n c m : Nat} {xs : List Value} {d' : Array BX} {os : Array Obj} (H : St w0 w (rRow 48 2 (.slice (some ⟨g, 0, none⟩) n c) n xs :: L)) (hd : d'.size = n) : St w0 (sortWorldK enc1 2 w g 0 m d' os) (rRow 48 2 (.slice (some ⟨g, 0, none⟩) n c) n (encB (bes d'.toList)) :: L) := by
  refine H.setRow ⟨by rw [encB_len]; simp [hd], .inr ?_⟩ (moved_sortK w g m d' os) (.inl rfl)
  rcases H.row.2 with ⟨h, _⟩ | ⟨g', cap, cur, e, hb, hg, h3, h4, h5, h6⟩
  · cases h
  · injection e with e1 e2 e3
    injection e1 with e1
    injection e1 with e1
    subst e1 e3
    refine ⟨g, c, _, rfl, Nat.zero_le _, heap_sortK hg, h3, h4, by simpa [Sort.putCells] using h5, ?_⟩
    rw [← flat_encB]
    refine List.ext_getElem (by simp [Sort.putCells, h5, hd]; omega) fun t h1 h2 => ?_
    have ht : t < (Sort.flatK enc1 2 d').size := by simpa using h2
    simp only [List.getElem_take, Sort.putCells, Array.getElem_toList, Array.getElem_mapIdx]
    rw [if_pos ⟨Nat.zero_le _, by omega⟩]
    show (Sort.flatK enc1 2 d')[t - 0]! = _
    rw [Nat.sub_zero, getElem!_pos _ t ht]
set_option maxHeartbeats 1000000 in
theorem cmp_calls (x y : BX) (W : World) : Calls Tryd.prog 37 #[.agg #[.int .i64 x.1.at_, .slice (some ⟨x.1.g, x.1.o, none⟩) 256 x.1.c], .agg #[.int .i64 y.1.at_, .slice (some ⟨y.1.g, y.1.o, none⟩) 256 y.1.c]] W fun e w' => e = .returned (.int .i64 (Lib.compareInt x.1.at_ y.1.at_)) ∧ ∃ q os', w' = Sort.grow (W.drewN q) os' := by
  have hcon := fun W' => AnyG.cmp_Compare_int Tryd.cmpA x.1.at_ y.1.at_ W'
  change ∀ W', Calls Tryd.prog 38 _ _ _ at hcon
  generalize Lib.compareInt x.1.at_ y.1.at_ = r at hcon ⊢
  go_enter Tryd.func37, Tryd.ntmps37
  go_wp2_with (go_at_call 38; refine (hcon _).mono ?_; rintro e w' ⟨rfl, rfl⟩)
  go_ret
  exact ⟨rfl, 0, _, by rw [Sort.alloc_eq_grow, Sort.alloc_eq_grow, Sort.grow_grow]; rfl⟩
def cfB (x y : BX) : Int := Lib.compareInt x.1.at_ y.1.at_
theorem lt_cfB (x y : BX) : ltOf cfB x y = decide (x.1.at_ < y.1.at_) := by
  unfold ltOf cfB Lib.compareInt
  by_cases h1 : x.1.at_ < y.1.at_
  · simp [h1]
  · by_cases h2 : y.1.at_ < x.1.at_ <;> simp [h1, h2]
theorem swo_cfB : Sort.SWO (ltOf cfB) where
  irrefl x := by rw [lt_cfB]; simp
  trans x y z h1 h2 := by rw [lt_cfB] at *; simp at *; omega
  ntrans x y z h1 h2 := by rw [lt_cfB] at *; simp at *; omega
/-- Blocks with their bytes. -/
theorem St.pairs {es : List BE} {ls : List (Int × Sec)} (H : St w0 w (rDats es ls :: L)) : bes (es.zip ls) = es ∧ (es.zip ls).map Prod.snd = ls ∧ ∀ x ∈ es.zip ls, x.1.at_ = x.2.1 := by
  obtain ⟨T, S, h, _⟩ := H.fst
  have hl := h.1.1
  refine ⟨List.map_fst_zip (by omega), List.map_snd_zip (by omega), fun x hx => ?_⟩
  obtain ⟨i, hi, e⟩ := List.mem_iff_getElem.1 hx
  rw [List.getElem_zip] at e
  have hi2 : i < es.length ∧ i < ls.length := by simp at hi; omega
  rw [← e]
  exact (h.1.2 i _ _ (List.getElem?_eq_getElem hi2.1) (List.getElem?_eq_getElem hi2.2)).1
theorem St.permDats {es : List BE} {ls : List (Int × Sec)} {ps : List BX} (H : St w0 w (rDats es ls :: L)) (hp : ps.Perm (es.zip ls)) : St w0 w (rDats (bes ps) (ps.map Prod.snd) :: L) :=
  H.imp fun T S h _ _ => ⟨⟨by simp, fun i e x he hx => by
    obtain ⟨y, hy, rfl⟩ : ∃ y, ps[i]? = some y ∧ y.1 = e := by simpa [bes] using he
    have hx2 : y.2 = x := by rw [List.getElem?_map, hy] at hx; simpa using hx
    subst hx2
    have hm := hp.mem_iff.1 (List.mem_of_getElem? hy)
    obtain ⟨k, hk, e⟩ := List.mem_iff_getElem.1 hm
    rw [List.getElem_zip] at e
    have hk2 : k < es.length ∧ k < ls.length := by simp at hk; omega
    rw [← e]
    exact h.1.2 k _ _ (List.getElem?_eq_getElem hk2.1) (List.getElem?_eq_getElem hk2.2)⟩, h.2⟩
theorem pair_unique : ∀ {l m : List (Int × Sec)}, l.Perm m → (homesOf m).Nodup → (l.Pairwise fun x y => x.1 ≤ y.1) → (m.Pairwise fun x y => x.1 ≤ y.1) → l = m
  | [], m, hp, _, _, _ => (List.nil_perm.1 hp).symm ▸ rfl
  | x :: l, [], hp, _, _, _ => absurd (List.perm_nil.1 hp) (by simp)
  | x :: l, y :: m, hp, hd, h1, h2 => by
    have a1 := List.pairwise_cons.1 h1
    have a2 := List.pairwise_cons.1 h2
    have d1 := List.nodup_cons.1 (show ((y.1 :: homesOf m)).Nodup from hd)
    have hxy : x = y := by
      have hx : x ∈ y :: m := hp.mem_iff.1 List.mem_cons_self
      have hy : y ∈ x :: l := hp.mem_iff.2 List.mem_cons_self
      rcases List.mem_cons.1 hx with e | hx
      · exact e
      · rcases List.mem_cons.1 hy with e | hy
        · exact e.symm
        · have := a1.1 y hy; have := a2.1 x hx
          exact absurd (List.mem_map.2 ⟨x, hx, by omega⟩ : y.1 ∈ homesOf m) d1.1
    subst hxy
    rw [pair_unique (List.Perm.cons_inv hp) d1.2 a1.2 a2.2]
/-- Sorted by their places. -/
def SortB (es es' : List BX) : Prop := es'.Perm es ∧ es'.Pairwise fun x y => x.1.at_ ≤ y.1.at_
theorem St.sortBlocks {A : Option Addr} {n c : Nat} {es : List BX} (H : St w0 w (rRow 48 2 (.slice A n c) n (encB (bes es)) :: L)) (hn : n ≤ 1048576) :
    Calls Tryd.prog 36 #[.slice A n c, .func (.func 37) #[] #[]] w fun e w' => e = .returned (.tuple #[]) ∧ ∃ es', SortB es es' ∧ St w0 w' (rRow 48 2 (.slice A n c) n (encB (bes es')) :: L) := by
  have hlen : (encB (bes es)).length = n * 2 := H.row.1
  rw [encB_len, List.length_map] at hlen
  have hen : es.length = n := by omega
  rcases Nat.eq_zero_or_pos n with h0 | h0
  · subst h0
    have hnil : es = [] := List.length_eq_zero_iff.1 hen
    refine (AnyF.slices_SortFunc_none Tryd.sortFuncA A c (.func (.func 37) #[] #[]) w).mono ?_
    rintro e w' ⟨rfl, rfl⟩
    exact ⟨rfl, es, ⟨List.Perm.refl _, by rw [hnil]; exact List.Pairwise.nil⟩, H⟩
  · obtain ⟨g, c', e, hcap⟩ := ownsRow_formC H.row h0
    injection e with e1 _ e3
    subst e1 e3
    have hlt : g < w.heap.size := (H.row.lt g rfl).2
    have eg : ∀ args w, (callFunc 37 args).run Tryd.prog w = .ok (.enter 37 args) w := enters_of Tryd.func37 (by kernel_rfl) rfl
    have hH : Sort.HoldsK enc1 2 w g 0 es.toArray := fun j hj => by
      have hj' : j < (encB (bes es)).length := by rw [encB_len]; simpa using hj
      have h1 := rRow_dat H j _ (List.getElem?_eq_getElem hj')
      rw [addr_add] at h1
      have e : (Sort.flatK enc1 2 es.toArray)[j]! = (encB (bes es))[j] := by
        have := flat_encB es.toArray
        rw [getElem!_pos _ j hj]
        show (Sort.flatK enc1 2 es.toArray).toList[j]'(by simpa using hj) = _
        simp only [this]
      refine ⟨by rw [h1]; show some _ = some (Sort.flatK enc1 2 es.toArray)[j]!; rw [e], ?_⟩
      rcases H.row.2 with ⟨h, _⟩ | ⟨g', cap, cur, e, hb, hg, _⟩
      · cases h
      · injection e with e1 _ _
        injection e1 with e1
        injection e1 with e1
        subst e1
        exact free_of_blk hg _
    have hcon := AnyQ.slices_SortFunc Tryd.sortFuncA 2 Tryd.isAgg48 Tryd.sizeOf48 enc1 (fun _ => rfl) (fun x v hv => by simp [enc1] at hv; rcases hv with rfl | rfl <;> rfl) cfB swo_cfB 37 #[] g 0 c es.toArray w eg (fun _ _ _ _ x y => cmp_calls x y _) hH hlt (by simp; omega)
    change Calls Tryd.prog 36 _ _ _ at hcon
    rw [show es.toArray.size = n by simpa using hen] at hcon
    refine hcon.mono ?_
    rintro e w' ⟨rfl, d', m, os, hp, hs, rfl⟩
    have hsz : d'.size = n := by rw [hp.1]; simpa using hen
    refine ⟨rfl, d'.toList, ⟨?_, ?_⟩, H.sortedRow hsz⟩
    · have h := hp.2.2
      have e1 : d'.extract 0 n = d' := by rw [← hsz]; exact Array.extract_size
      have e2 : es.toArray.extract 0 n = es.toArray := by rw [← show es.toArray.size = n by simpa using hen]; exact Array.extract_size
      rw [e1, e2] at h
      simpa using h
    · refine List.pairwise_iff_getElem.2 fun i j hi hj hij => ?_
      have hi' : i < d'.size := by simpa using hi
      have hj' : j < d'.size := by simpa using hj
      have := hs i j (Nat.zero_le _) hij (by omega)
      rw [lt_cfB, getElem!_pos _ j hj', getElem!_pos _ i hi'] at this
      simp at this
      exact this
end
end Go.Proofs.YtfhdiddlloiglaaDoor
end
section
/- A log commits. -/
namespace Go.Proofs.YtfhdiddlloiglaaDoor
open Go.RowKit Go.Proofs.YtfhdiddlloiglaaDoorW.PrintWords
attribute [local go_sem ↓] Go.wp_at_zero Go.wp_at_succ
set_option linter.unusedVariables false
set_option linter.unusedSimpArgs false
set_option maxRecDepth 100000

/-- The first so many are good: in the home, each once. -/
def goodTo (n : Nat) (g : Lg) (hs : List Int) (j : Nat) : Prop := ∀ i, i < j → (g.a + g.c < hs.getD i 0 ∧ hs.getD i 0 < n) ∧ (0 < i → hs.getD (i - 1) 0 ≠ hs.getD i 0)
theorem good_of_sorted {n : Nat} {g : Lg} {ls ls' : List (Int × Sec)} (hp : ls'.Perm ls) (hs : ls'.Pairwise fun x y => x.1 ≤ y.1) : goodTo n g (homesOf ls') ls'.length ↔ goodB n g ls := by
  have hlen : (homesOf ls').length = ls'.length := List.length_map _
  have hget : ∀ i (h : i < ls'.length), (homesOf ls').getD i 0 = ls'[i].1 := fun i h => by
    rw [List.getD_eq_getElem?_getD, List.getElem?_eq_getElem (by omega)]; simp [homesOf]
  have hnd : (homesOf ls').Nodup ↔ (homesOf ls).Nodup := (hp.map Prod.fst).nodup_iff
  constructor
  · intro h
    refine ⟨fun x hx => ?_, hnd.1 ?_⟩
    · obtain ⟨i, hi, e⟩ := List.mem_iff_getElem.1 (hp.mem_iff.2 hx)
      have := (h i hi).1
      rw [hget i hi, e] at this
      exact this
    · refine List.pairwise_iff_getElem.2 fun i j hi hj hij => ?_
      have hi' : i < ls'.length := by omega
      have hj' : j < ls'.length := by omega
      have h1 := (h j hj').2 (by omega)
      rw [hget _ hj', hget _ (by omega)] at h1
      have h2 : ls'[j - 1].1 ≤ ls'[j].1 := List.pairwise_iff_getElem.1 hs (j - 1) j (by omega) hj' (by omega)
      have h3 : ls'[i].1 ≤ ls'[j - 1].1 := by
        rcases Nat.lt_or_ge i (j - 1) with h | h
        · exact List.pairwise_iff_getElem.1 hs i (j - 1) hi' (by omega) h
        · have : i = j - 1 := by omega
          subst this; exact Int.le_refl _
      simp only [homesOf, List.getElem_map]
      omega
  · rintro ⟨h1, h2⟩ i hi
    have hm := h1 ls'[i] (hp.mem_iff.1 (List.getElem_mem hi))
    refine ⟨by rw [hget i hi]; exact hm, fun h0 e => ?_⟩
    rw [hget i hi, hget (i - 1) (by omega)] at e
    have := List.pairwise_iff_getElem.1 (hnd.2 h2) (i - 1) i (by omega) (by omega) (by omega)
    simp only [homesOf, List.getElem_map] at this
    exact this e
section
variable {w0 w : World} {p lp : Nat} {t : Int} {d : Dsk} {L : List Res}
theorem St.order {w0 w : World} {L : List Res} (H : St w0 w L) (is : List Nat) (h : is.Perm (List.range is.length)) (hk : is.length ≤ L.length := by exact Nat.le_of_ble_eq_true rfl) : St w0 w (is.map (fun i => L.getD i rEmp) ++ L.drop is.length) := by
  refine H.perm (List.Perm.symm ?_)
  have e : L.take is.length = (List.range is.length).map fun i => L.getD i rEmp := by
    refine List.ext_getElem (by simp; omega) fun i h1 h2 => ?_
    have hi : i < L.length := by simp at h1; omega
    simp [List.getD_eq_getElem?_getD, hi]
  have e2 : L = (List.range is.length).map (fun i => L.getD i rEmp) ++ L.drop is.length := by rw [← e, List.take_append_drop]
  have h3 := (h.map fun i => L.getD i rEmp).append_right (L.drop is.length)
  rw [← e2] at h3
  exact h3
theorem St.dupDats {es : List BE} {ls : List (Int × Sec)} (H : St w0 w (rDats es ls :: L)) : St w0 w (rDats es ls :: rDats es ls :: L) := by
  obtain ⟨T, S, h, hd⟩ := H.withT
  exact hd _ ⟨h.1, fun _ h => h⟩
/-- The test of one block. -/
def badAt (n : Nat) (g : Lg) (hs : List Int) (j : Nat) : Bool := decide (hs.getD j 0 < g.a + g.c + 1) || decide ((n : Int) ≤ hs.getD j 0) || (decide (0 < j) && decide (hs.getD (j - 1) 0 = hs.getD j 0))
theorem badAt_iff {n : Nat} {g : Lg} {hs : List Int} {j : Nat} : badAt n g hs j = false ↔ (g.a + g.c < hs.getD j 0 ∧ hs.getD j 0 < n) ∧ (0 < j → hs.getD (j - 1) 0 ≠ hs.getD j 0) := by
  unfold badAt
  simp only [Bool.or_eq_false_iff, decide_eq_false_iff_not, Bool.and_eq_false_iff]
  constructor
  · rintro ⟨⟨h1, h2⟩, h3⟩
    exact ⟨⟨by omega, by omega⟩, fun h0 => h3.elim (absurd h0) id⟩
  · rintro ⟨⟨h1, h2⟩, h3⟩
    refine ⟨⟨by omega, by omega⟩, ?_⟩
    by_cases h0 : 0 < j
    · exact .inr (h3 h0)
    · exact .inl h0
/-- What a round of the tests has. -/
def CW (p lp : Nat) (g : Lg) (d : Dsk) (A A' : Option Addr) (n c c' : Nat) (es : List BE) (ls : List (Int × Sec)) (es' : List BE) (ls' : List (Int × Sec)) (L : List Res) : List Res :=
  rBlk lp (walObj p g) :: rRow 48 2 (.slice A' n c') n (encB es') :: rDats es' ls' :: rDisk p d :: rRow 48 2 (.slice A n c) n (encB es) :: rDats es ls :: L
set_option maxHeartbeats 2000000 in
theorem St.commitL {g : Lg} {A : Option Addr} {n c : Nat} {es : List BE} {ls : List (Int × Sec)} (H : St w0 w (rBlk lp (walObj p g) :: rDisk p d :: rRow 48 2 (.slice A n c) n (encB es) :: rDats es ls :: L)) (hT : Half w0) (ht0 : 0 ≤ g.turn) (ht1 : g.turn < 4294967296)
    (ha : 0 ≤ g.a ∧ g.a ≤ 4096) (hc : 0 ≤ g.c ∧ g.c ≤ 100) (hn : n ≤ 1048576) (ht : d.taken + 301 < maxTaken) :
    Calls Tryd.prog 11 #[.pointer (some ⟨lp, 0, none⟩), .slice A n c] w fun e w' => e = .returned (.int .i64 (commitD g d ls).1) ∧ St w0 w' (rBlk lp (walObj p (commitD g d ls).2.1) :: rDisk p (commitD g d ls).2.2 :: rRow 48 2 (.slice A n c) n (encB es) :: rDats es ls :: L) := by
  have hel : es.length = n := by have := H.drop.drop.row.1; rw [encB_len] at this; omega
  have hll : es.length = ls.length := by obtain ⟨T, S, h, _⟩ := H.drop.drop.drop.fst; exact h.1.1
  have HI := Aside0.mk (wal_is (walObj.cells H.blk).1)
  have HCL := Aside0.mk ((St.rot3 H).cloneBlocks hn)
  have hpair := H.drop.drop.drop.pairs
  have HP := Aside0.mk hpair
  have HEL := Aside0.mk hel
  have HLL := Aside0.mk hll
  have HT := Aside0.mk hT
  have HTK := Aside0.mk ht
  clear H hpair hel hll hT ht
  go_enter Tryd.func11, Tryd.ntmps11
  go_wp2_with fail
  refine HI.out.mono ?_
  rintro e w1 ⟨rfl, rfl⟩
  clear HI
  go_wp2_with fail
  refine HCL.out.mono ?_
  rintro e w2 ⟨A', c', rfl, H2⟩
  have hes : bes (es.zip ls) = es := HP.out.1
  rw [show encB es = encB (bes (es.zip ls)) by rw [hes]] at H2
  have HS := Aside0.mk (H2.sortBlocks hn)
  rw [hes] at HS
  clear H2 HCL hes
  go_wp2_with fail
  refine HS.out.mono ?_
  rintro e w3 ⟨rfl, ps, ⟨hperm, hpw⟩, H3⟩
  have h4 := (St.rot5 H3).dupDats.permDats hperm
  obtain ⟨es', hes'⟩ : ∃ es', es' = bes ps := ⟨_, rfl⟩
  obtain ⟨ls', hls'⟩ : ∃ ls' : List (Int × Sec), ls' = ps.map Prod.snd := ⟨_, rfl⟩
  have hpm : ls'.Perm ls := by rw [hls']; exact (hperm.map Prod.snd).trans (List.Perm.of_eq HP.out.2.1)
  have hat : ∀ x ∈ ps, x.1.at_ = x.2.1 := fun x hx => HP.out.2.2 x (hperm.mem_iff.1 hx)
  have hsd : ls'.Pairwise fun x y => x.1 ≤ y.1 := by
    rw [hls']
    refine List.pairwise_map.2 (hpw.imp_of_mem fun {x y} hx hy h => ?_)
    rw [← hat x hx, ← hat y hy]; exact h
  have hlen' : es'.length = n := by rw [hes', List.length_map, hperm.length_eq, List.length_zip, ← HLL.out, HEL.out]; omega
  have hats : ∀ i (h : i < es'.length), es'[i].at_ = (homesOf ls').getD i 0 := fun i h => by
    subst hes' hls'
    have h' : i < ps.length := by simpa [bes] using h
    have := hat ps[i] (List.getElem_mem h')
    simp only [bes, List.getElem_map]
    rw [this]
    simp [homesOf, List.getD_eq_getElem?_getD, h']
  rw [← hes', ← hls'] at h4
  have h5 : St w0 w3 (CW p lp g d A A' n c c' es ls es' ls' L) := h4.order [4, 2, 0, 5, 3, 1] (by decide)
  have H5 := Aside0.mk h5
  have HPM := Aside0.mk hpm
  have HSD := Aside0.mk hsd
  have HAT := Aside0.mk hats
  have HL' := Aside0.mk hlen'
  clear HS H3 h4 h5 hes' hls' hperm hpw hpm hat hsd hats hlen' HP
  go_wp2_with fail
  go_loopw [17] (fun v17 W => ∃ j : Nat, v17 = .int .i64 (j : Int) ∧ j ≤ n ∧ Aside0 (St w0 W (CW p lp g d A A' n c c' es ls es' ls' L)) ∧ Aside0 (goodTo d.vals.length g (homesOf ls') j)) (fun v17 _ => n - (RowKit.intOf v17).toNat)
  case atStart => exact ⟨0, rfl, Nat.zero_le _, H5, ⟨fun i hi => absurd hi (by omega)⟩⟩
  case round =>
    clear H5
    obtain ⟨j, rfl, hj, HJ, HG⟩ := hrel
    by_cases hjn : j < n
    · have t1 : decide ((j : Int) < (n : Int)) = true := decide_eq_true (by omega)
      have t1' : (j : Int) < (n : Int) := by omega
      have q0 : (0 : Int) ≤ (j : Int) := by omega
      obtain ⟨lb, cA, eA, _⟩ := ownsRow_formC HJ.out.drop.row (by omega)
      injection eA with eA _ eC
      subst eA
      subst eC
      have hje : j < es'.length := by rw [HL'.out]; exact hjn
      obtain ⟨e, he⟩ : ∃ e, e = es'[j] := ⟨_, rfl⟩
      obtain ⟨bb, hbb⟩ : ∃ bb, bb = wr.heap.size := ⟨_, rfl⟩
      have hg := encB_get es' hje
      rw [← he] at hg
      have l0 := rRow_dat HJ.out.drop _ _ hg.1
      have l1 := rRow_dat HJ.out.drop _ _ hg.2
      rw [addr_add, Nat.zero_add] at l0 l1
      have HJ1 := HJ.out.alloc (.cells #[.int .i64 e.at_, .slice (some ⟨e.g, e.o, none⟩) 256 e.c] 48)
      rw [← hbb] at HJ1
      have hath := HAT.out j hje
      rw [← he] at hath
      have HATJ := Aside0.mk hath
      have HE := Aside0.mk he
      have HBB := Aside0.mk hbb
      have HJ1 := Aside0.mk HJ1
      clear hg he hath HJ
      go_upto_region 8 with fail
      rw [← hbb]
      clear hbb l0 l1
      generalize wr.alloc (.cells #[.int .i64 e.at_, .slice (some ⟨e.g, e.o, none⟩) 256 e.c] 48) = W1 at *
      go_cut [57] (fun v57 W => v57 = .bool (badAt d.vals.length g (homesOf ls') j) ∧ Aside0 (St w0 W (rBlk bb (.cells #[.int .i64 e.at_, .slice (some ⟨e.g, e.o, none⟩) 256 e.c] 48) :: CW p lp g d A (some ⟨lb, 0, none⟩) n c c' es ls es' ls' L)))
      case first =>
        as_aux_lemma =>
          have hlt : (0 < j → j - 1 < es'.length) := fun _ => by omega
          have kb0 := cell_regrown (cell_of_blk HJ1.out.blk 0 : W1.cell? ⟨bb, 0, none⟩ = some (.int .i64 e.at_))
          have kb1 := cell_regrown (cell_of_blk HJ1.out.blk 1 : W1.cell? ⟨bb, 1, none⟩ = some (.slice (some ⟨e.g, e.o, none⟩) 256 e.c))
          obtain ⟨w0', w1', w2', _, _⟩ := walObj.cells HJ1.out.drop.blk
          have kl0 := cell_regrown w0'
          have su1 : ∀ W, Below W1.heap.size W1 W → Calls Tryd.prog 14 #[.pointer (some ⟨lp, 0, none⟩)] W fun e w' => e = .returned (.int .i64 (g.a + g.c + 1)) ∧ Below W.heap.size W w' := fun W hW => by
            obtain ⟨a0, a1, a2, _, _⟩ := walObj.cells (HJ1.out.go hW).drop.blk
            exact wal_home a0 a1 a2 (by omega) hc
          have su2 : ∀ W, Below W1.heap.size W1 W → Calls Tryd.prog 31 #[.pointer (some ⟨p, 0, none⟩)] W fun e w' => e = .returned (.int .i64 (d.vals.length : Int)) ∧ Below W.heap.size W w' := fun W hW =>
            (St.rot5 (HJ1.out.go hW)).sectors.mono fun e w' ⟨h1, h2⟩ => ⟨h1, h2 ▸ Below.refl _ _⟩
          have r1 : ∀ d os, Calls Tryd.prog 14 #[.pointer (some ⟨lp, 0, none⟩)] (Sort.grow (redrawn W1 d) os) fun e w'' => e = .returned (.int .i64 (g.a + g.c + 1)) ∧ ∃ p : Regrown, w'' = Sort.grow (redrawn W1 p.d) p.os := fun d os => Calls.regrown_of (su1 _ (below_regrown W1 d os))
          have r2 : ∀ dd os, Calls Tryd.prog 31 #[.pointer (some ⟨p, 0, none⟩)] (Sort.grow (redrawn W1 dd) os) fun e w'' => e = .returned (.int .i64 (d.vals.length : Int)) ∧ ∃ p : Regrown, w'' = Sort.grow (redrawn W1 p.d) p.os := fun d os => Calls.regrown_of (su2 _ (below_regrown W1 d os))
          have kpr : ∀ h : 0 < j, W1.cell? ⟨lb, (j - 1) * 2, none⟩ = some (.int .i64 ((homesOf ls').getD (j - 1) 0)) := fun h => by
            have hg := (encB_get es' (hlt h)).1
            have := rRow_dat HJ1.out.drop.drop _ _ hg
            rw [addr_add, Nat.zero_add] at this
            rw [this, HAT.out (j - 1) (hlt h)]
          obtain ⟨N, hN⟩ : ∃ N, N = d.vals.length := ⟨_, rfl⟩
          obtain ⟨x, hx⟩ : ∃ x, x = e.at_ := ⟨_, rfl⟩
          obtain ⟨y, hy⟩ : ∃ y, y = (homesOf ls').getD (j - 1) 0 := ⟨_, rfl⟩
          have hbad : badAt N g (homesOf ls') j = (decide (x < g.a + g.c + 1) || decide ((N : Int) ≤ x) || (decide (0 < j) && decide (y = x))) := by unfold badAt; rw [← HATJ.out, ← hx, ← hy]
          rw [← hN] at r2
          rw [← hx] at kb0
          rw [← hy] at kpr
          have wh : wrap64 (g.a + g.c + 1) = g.a + g.c + 1 := by unfold wrap64; omega
          have HX := Aside0.mk hx
          have HNN := Aside0.mk hN
          obtain ⟨hh, hhd⟩ : ∃ hh, hh = g.a + g.c + 1 := ⟨_, rfl⟩
          rw [← hhd] at r1 hbad
          clear hx hN hy w0' w1' w2' su1 su2 hlt wh hhd
          have hcase : (decide (x < hh) = true ∧ badAt N g (homesOf ls') j = true) ∨ (decide (x < hh) = false ∧ decide ((N : Int) ≤ x) = true ∧ badAt N g (homesOf ls') j = true) ∨ (decide (x < hh) = false ∧ decide ((N : Int) ≤ x) = false ∧ badAt N g (homesOf ls') j = (decide (0 < j) && decide (y = x))) := by
            by_cases h1 : x < hh
            · exact .inl ⟨decide_eq_true h1, by rw [hbad, decide_eq_true h1]; rfl⟩
            · by_cases h2 : (N : Int) ≤ x
              · exact .inr (.inl ⟨decide_eq_false h1, decide_eq_true h2, by rw [hbad, decide_eq_false h1, decide_eq_true h2]; rfl⟩)
              · exact .inr (.inr ⟨decide_eq_false h1, decide_eq_false h2, by rw [hbad, decide_eq_false h1, decide_eq_false h2]; rfl⟩)
          clear hbad
          rcases hcase with ⟨b1, hb⟩ | ⟨b1, b2, hb⟩ | ⟨b1, b2, hb⟩
          · have HB := Aside0.mk hb
            clear hb kpr
            refine wp_region_quiet_below (by kernel_rfl) (by kernel_rfl) ?_
            repeat (
              with_reducible refine wpQuiet_step ?_
              intro K hK
              go_simp
              first
                | (with_reducible refine hK _ ?_; clear hK K)
                | (rw [if_neg]
                   rotate_left
                   · intro h
                     exact absurd (show (none : Option Bool) = some true from h) (by decide)
                   with_reducible refine hK _ ?_
                   clear hK K)
                | (apply Exists.intro
                   refine ⟨fun _ => ?_, hK _ ?_⟩
                   with_reducible first | exact r1 _ _ | exact r2 _ _
                   clear hK K))
            with_reducible refine wpQuiet_nil ?_
            intro _ hw'
            obtain ⟨⟨dq, osq⟩, hw''⟩ := hw'
            subst hw''
            have hq := below_regrown W1 dq osq
            go_wp2_with fail
            go_meet
            exact ⟨by rw [← HNN.out, HB.out], ⟨HJ1.out.go hq⟩⟩
          · have HB := Aside0.mk hb
            clear hb kpr
            refine wp_region_quiet_below (by kernel_rfl) (by kernel_rfl) ?_
            repeat (
              with_reducible refine wpQuiet_step ?_
              intro K hK
              go_simp
              first
                | (with_reducible refine hK _ ?_; clear hK K)
                | (rw [if_neg]
                   rotate_left
                   · intro h
                     exact absurd (show (none : Option Bool) = some true from h) (by decide)
                   with_reducible refine hK _ ?_
                   clear hK K)
                | (apply Exists.intro
                   refine ⟨fun _ => ?_, hK _ ?_⟩
                   with_reducible first | exact r1 _ _ | exact r2 _ _
                   clear hK K))
            with_reducible refine wpQuiet_nil ?_
            intro _ hw'
            obtain ⟨⟨dq, osq⟩, hw''⟩ := hw'
            subst hw''
            have hq := below_regrown W1 dq osq
            go_wp2_with fail
            go_meet
            exact ⟨by rw [← HNN.out, HB.out], ⟨HJ1.out.go hq⟩⟩
          · by_cases h0 : 0 < j
            · have kp := cell_regrown (kpr h0)
              have t0 : decide (0 < (j : Int)) = true := decide_eq_true (by omega)
              have t0' : (0 : Int) < (j : Int) := by omega
              have t0'' : 0 < j := h0
              have i1 : ((j : Int) - 1).toNat = j - 1 := by omega
              have i2 : (0 : Int) ≤ (j : Int) - 1 := by omega
              have i3 : (j : Int) - 1 < (n : Int) := by omega
              have i4 : (1 : Int) ≤ (j : Int) := by omega
              have wj : IntKind.i64.wrap ((j : Int) - 1) = (j : Int) - 1 := by rw [IntWalk.i64_in _ (by omega)]
              have hb2 : badAt N g (homesOf ls') j = decide (y = x) := by rw [hb, decide_eq_true h0]; rfl
              have hcase : ((y == x) = true ∧ badAt N g (homesOf ls') j = true) ∨ ((y == x) = false ∧ badAt N g (homesOf ls') j = false) := by
                by_cases e : y = x
                · exact .inl ⟨by simpa using e, by rw [hb2, decide_eq_true e]⟩
                · exact .inr ⟨by simpa using e, by rw [hb2, decide_eq_false e]⟩
              clear hb hb2 kpr h0
              rcases hcase with ⟨b3, hb⟩ | ⟨b3, hb⟩
              all_goals (
                have HB := Aside0.mk hb
                clear hb
                refine wp_region_quiet_below (by kernel_rfl) (by kernel_rfl) ?_
                repeat (
                  with_reducible refine wpQuiet_step ?_
                  intro K hK
                  go_simp
                  first
                    | (with_reducible refine hK _ ?_; clear hK K)
                    | (rw [if_neg]
                       rotate_left
                       · intro h
                         exact absurd (show (none : Option Bool) = some true from h) (by decide)
                       with_reducible refine hK _ ?_
                       clear hK K)
                    | (apply Exists.intro
                       refine ⟨fun _ => ?_, hK _ ?_⟩
                       with_reducible first | exact r1 _ _ | exact r2 _ _
                       clear hK K))
                with_reducible refine wpQuiet_nil ?_
                intro _ hw'
                obtain ⟨⟨dq, osq⟩, hw''⟩ := hw'
                subst hw''
                have hq := below_regrown W1 dq osq
                go_wp2_with fail
                go_meet
                exact ⟨by rw [← HNN.out, HB.out], ⟨HJ1.out.go hq⟩⟩)
            · have j0 : j = 0 := by omega
              have hb2 : badAt N g (homesOf ls') j = false := by rw [hb, decide_eq_false h0]; rfl
              have t0 : decide (0 < (j : Int)) = false := decide_eq_false (by omega)
              have t0' : ¬ (0 : Int) < (j : Int) := by omega
              have t0'' : ¬ 0 < j := h0
              have t1 : decide (0 < j) = false := decide_eq_false h0
              have HB := Aside0.mk hb2
              clear hb hb2 kpr h0 j0
              refine wp_region_quiet_below (by kernel_rfl) (by kernel_rfl) ?_
              repeat (
                with_reducible refine wpQuiet_step ?_
                intro K hK
                go_simp
                first
                  | (with_reducible refine hK _ ?_; clear hK K)
                  | (rw [if_neg]
                     rotate_left
                     · intro h
                       exact absurd (show (none : Option Bool) = some true from h) (by decide)
                     with_reducible refine hK _ ?_
                     clear hK K)
                  | (apply Exists.intro
                     refine ⟨fun _ => ?_, hK _ ?_⟩
                     with_reducible first | exact r1 _ _ | exact r2 _ _
                     clear hK K))
              with_reducible refine wpQuiet_nil ?_
              intro _ hw'
              obtain ⟨⟨dq, osq⟩, hw''⟩ := hw'
              subst hw''
              have hq := below_regrown W1 dq osq
              go_wp2_with fail
              go_meet
              exact ⟨by rw [← HNN.out, HB.out], ⟨HJ1.out.go hq⟩⟩
      case rest =>
        obtain ⟨rfl, HE2⟩ := hcut
        clear HJ1 HATJ HE HBB
        cases hb : badAt d.vals.length g (homesOf ls') j with
        | true =>
          have hng : ¬ goodB d.vals.length g ls := fun hgd => by
            have h1 := (good_of_sorted HPM.out HSD.out).2 hgd
            have hl : ls'.length = n := by rw [HPM.out.length_eq, ← HLL.out, HEL.out]
            rw [hl] at h1
            have h2 := badAt_iff.2 (h1 j hjn)
            rw [hb] at h2
            cases h2
          have hcm : commitD g d ls = (2, g, d) := by unfold commitD; rw [if_pos hng]
          have HF := Aside0.mk ((HE2.out.drop).order [1, 2, 0, 3, 4, 5] (by decide)).drop.drop
          have HCM := Aside0.mk hcm
          clear hng hcm hb HE2 HG
          go_wp2
          go_ret
          rw [HCM.out]
          exact ⟨rfl, HF.out⟩
        | false =>
          have HG2 : Aside0 (goodTo d.vals.length g (homesOf ls') (j + 1)) := ⟨fun i hi => by
            rcases Nat.lt_or_ge i j with h | h
            · exact HG.out i h
            · obtain rfl : i = j := by omega
              exact badAt_iff.1 hb⟩
          have HE3 := Aside0.mk HE2.out.drop
          clear hb HG HE2
          go_wp2
          go_roundw
          case rel => exact ⟨j + 1, by go_num, hjn, HE3, HG2⟩
          case measure => simp only [RowKit.intOf]; omega
    · have hje : j = n := by omega
      subst hje
      have t1 : decide ((j : Int) < (j : Int)) = false := decide_eq_false (by omega)
      have hlen : ls'.length = j := by rw [HPM.out.length_eq, ← HLL.out, HEL.out]
      have hgood : goodB d.vals.length g ls := (good_of_sorted HPM.out HSD.out).1 (by rw [hlen]; exact HG.out)
      have hlsl : ls.length = j := by rw [← HLL.out, HEL.out]
      obtain ⟨w0', w1', w2', w3', w4'⟩ := walObj.cells HJ.out.blk
      have HGD := Aside0.mk hgood
      have HLS := Aside0.mk hlsl
      clear hlen hgood hlsl HG
      by_cases hful : g.c < (j : Int)
      · have q1 : decide (g.c < (j : Int)) = true := decide_eq_true hful
        have hcm : commitD g d ls = (4, g, d) := by unfold commitD; rw [if_neg (fun h => h HGD.out), if_pos (by rw [HLS.out]; exact hful)]
        have HF := Aside0.mk ((HJ.out).order [1, 2, 0, 3, 4, 5] (by decide)).drop.drop
        have HCM := Aside0.mk hcm
        clear hcm hful
        go_wp2
        go_ret
        rw [HCM.out]
        exact ⟨rfl, HF.out⟩
      · have q1 : decide (g.c < (j : Int)) = false := decide_eq_false hful
        by_cases h0 : j = 0
        · have q2 : ((j : Int) == 0) = true := by simp [h0]
          have hcm : commitD g d ls = (0, g, d) := by
            unfold commitD; rw [if_neg (fun h => h HGD.out), if_neg (by rw [HLS.out]; exact hful), if_pos (List.length_eq_zero_iff.1 (by rw [HLS.out]; exact h0))]
          have HF := Aside0.mk ((HJ.out).order [1, 2, 0, 3, 4, 5] (by decide)).drop.drop
          have HCM := Aside0.mk hcm
          clear hcm hful h0
          go_wp2
          go_ret
          rw [HCM.out]
          exact ⟨rfl, HF.out⟩
        · have q2 : ((j : Int) == 0) = false := by simpa using h0
          by_cases hoff : g.off = true
          · have hcm : commitD g d ls = (10, g, d) := by
              unfold commitD; rw [if_neg (fun h => h HGD.out), if_neg (by rw [HLS.out]; exact hful), if_neg (fun h => h0 (by rw [← HLS.out, h]; rfl)), if_pos hoff]
            rw [hoff] at w4'
            have HF := Aside0.mk ((HJ.out).order [1, 2, 0, 3, 4, 5] (by decide)).drop.drop
            have HCM := Aside0.mk hcm
            clear hcm hful h0 hoff
            go_wp2
            go_ret
            rw [HCM.out]
            exact ⟨rfl, HF.out⟩
          · have hoff : g.off = false := by simpa using hoff
            obtain ⟨lb, cA, eA, _⟩ := ownsRow_formC HJ.out.drop.row (by omega)
            injection eA with eA _ eC
            subst eA
            subst eC
            have hls : ls' = sortB ls := pair_unique (HPM.out.trans (sortB_perm ls).symm) (((sortB_perm ls).map Prod.fst).nodup_iff.2 HGD.out.2) HSD.out (sortB_pair ls)
            have hl' : ls'.length = j := by rw [HPM.out.length_eq, HLS.out]
            have hN := HJ.out.drop.drop.drop.diskOk.n2
            have hhm : ∀ x ∈ ls', 0 ≤ x.1 ∧ x.1 < 65536 := fun x hx => by
              have := HGD.out.1 x (HPM.out.mem_iff.1 hx)
              omega
            have hst := HJ.out.steps (p := p) (t := nextTurn g.turn) (L := rDisk p d :: rRow 48 2 (.slice A j c) j (encB es) :: rDats es ls :: L) HT.out ht0 ht1 ha.1 ha.2 rfl hl' (by omega) (by omega) hhm
            have HST := Aside0.mk hst
            have hcm : commitD g d ls = ((runD (stepsS g.a (nextTurn g.turn) ls') false d).1, { g with turn := if (runD (stepsS g.a (nextTurn g.turn) ls') false d).2.1 = true then nextTurn g.turn else g.turn, off := decide ((runD (stepsS g.a (nextTurn g.turn) ls') false d).1 ≠ 0) }, (runD (stepsS g.a (nextTurn g.turn) ls') false d).2.2) := by
              unfold commitD
              rw [if_neg (fun h => h HGD.out), if_neg (by rw [HLS.out]; exact hful), if_neg (fun h => h0 (by rw [← HLS.out, h]; rfl)), if_neg (by rw [hoff]; decide), ← hls]
            obtain ⟨tt, htt⟩ : ∃ tt, tt = nextTurn g.turn := ⟨_, rfl⟩
            rw [← htt] at HST hcm
            obtain ⟨rr, hrr⟩ : ∃ rr, rr = runD (stepsS g.a tt ls') false d := ⟨_, rfl⟩
            rw [← hrr] at hcm
            have HCM := Aside0.mk hcm
            have HRR := Aside0.mk hrr
            have HOF := Aside0.mk hoff
            clear hst hhm hN hl' hls hcm hrr htt hoff HJ h0 hful
            go_wp2_with fail
            refine HST.out.mono ?_
            rintro e w4 ⟨gg, cc, m, hm, rfl, hsl, H5⟩
            have HSL := Aside0.mk hsl
            clear hsl HST w0' w1' w2' w3' w4' q1 q2
            have hrun := (H5.order [0, 2, 1] (by decide)).run (J := fun tb => rBlk lp (walObj p { g with turn := if tb = true then tt else g.turn })) HSL.out (by omega) (by have := HTK.out; omega) (fun _ {W M b1 b2} tb hW c1 c2 => (St.stepTurn hW c1 c2).mono fun e w' h => h)
            rw [← HRR.out] at hrun
            have HRUN := Aside0.mk hrun
            clear H5 hrun
            go_wp2_with fail
            refine HRUN.out.mono ?_
            rintro e w5 ⟨rfl, H6⟩
            have h7 : St w0 w5 (rBlk lp (walObj p { g with turn := if rr.2.1 = true then tt else g.turn }) :: rDisk p rr.2.2 :: rRow 48 2 (.slice A j c) j (encB es) :: rDats es ls :: L) := St.swap H6.drop
            have s4 : w5.cell? ⟨lp, 4, none⟩ = some (.bool g.off) := cell_of_blk h7.blk 4
            have f4 : w5.frozen? ⟨lp, 4, none⟩ = false := free_of_blk h7.blk 4
            obtain ⟨rc, hrc⟩ : ∃ rc, rc = rr.1 := ⟨_, rfl⟩
            have hne : (rc != 0) = decide (rc ≠ 0) := by by_cases e : rc = 0 <;> simp [e]
            rw [← hrc] at HCM ⊢
            have H8 : Aside0 (St w0 (w5.setCell ⟨lp, 4, none⟩ (.bool (rc != 0))) (rBlk lp (walObj p { g with turn := if rr.2.1 = true then tt else g.turn, off := decide (rc ≠ 0) }) :: rDisk p rr.2.2 :: rRow 48 2 (.slice A j c) j (encB es) :: rDats es ls :: L)) := ⟨by
              have := h7.setCell 4 (.bool (rc != 0))
              rw [hne] at this ⊢
              exact this⟩
            clear H6 HRUN h7 hne hrc
            go_wp2
            go_ret
            rw [HCM.out]
            exact ⟨rfl, H8.out⟩
end
end Go.Proofs.YtfhdiddlloiglaaDoor
end
section
/- The laws' helpers: HasInt, ats, blocks. -/
namespace Go.Proofs.YtfhdiddlloiglaaDoor
open Go.RowKit Go.Proofs.YtfhdiddlloiglaaDoorW.PrintWords
attribute [local go_sem ↓] Go.wp_at_zero Go.wp_at_succ
set_option linter.unusedVariables false
set_option linter.unusedSimpArgs false
set_option maxRecDepth 100000

/-- Numbers that lie where nobody writes. -/
def rRdK (k : IntKind) (A : Option Addr) (l : List Int) : Res :=
  ⟨fun w T S => (Kd.C (Kd.int k) w A l.length l ∧ ∀ ad, A = some ad → 0 < l.length → T ad.block) ∧ ∀ i, ¬ S i, fun h i hi => absurd hi (h.2 i),
   fun {w T S w' T'} h _ hk hT => ⟨⟨⟨h.1.1.1, h.1.1.2.1, fun hn => by
     obtain ⟨ad, e, hc⟩ := h.1.1.2.2 hn
     refine ⟨ad, e, fun j p hp => ?_⟩
     obtain ⟨c, h1, h2, h3⟩ := hc j p hp
     refine ⟨c, h1, h2, fun i u hu => ?_⟩
     have hb : (ad.add (j * (Kd.int k).sz + i)).block = ad.block := by unfold Addr.add; split <;> rfl
     rw [World.cell?_of_block (w := w) (by rw [hb]; exact hk _ (.inr (h.1.2 ad e hn)))]
     exact h3 i u hu⟩, fun ad e hn => hT _ (h.1.2 ad e hn)⟩, h.2⟩⟩
section
variable {w0 w : World} {p lp : Nat} {d : Dsk} {L : List Res}
theorem St.oldK {k : IntKind} {A : Option Addr} {l : List Int} (H : St w0 w L) (h : Kd.C (Kd.int k) w0 A l.length l) : St w0 w (rRdK k A l :: L) := by
  have hb := H.below
  obtain ⟨⟨T, S, h1, hT, hS, h0⟩, hB⟩ := H.emp
  have hc : Kd.C (Kd.int k) w A l.length l := Kd.C_below h hb
  refine ⟨⟨T, S, ?_, hT, hS, h0⟩, hB⟩
  obtain ⟨S1, S2, e1, e2, e3, e4⟩ := h1
  refine ⟨S1, S2, ⟨⟨hc, fun ad e hn => h0 _ ?_⟩, e1⟩, e2, e3, e4⟩
  obtain ⟨ad', e', hcc⟩ := h.2.2 hn
  rw [e] at e'
  cases e'
  obtain ⟨c, g1, g2, g3⟩ := hcc 0 _ (List.getElem?_eq_getElem hn)
  have hl : 0 < c.length := by rw [g1]; exact Nat.zero_lt_one
  have := World.block_lt_of_cell? w0 _ (g3 0 _ (List.getElem?_eq_getElem hl))
  have hb : (ad.add (0 * (Kd.int k).sz + 0)).block = ad.block := by unfold Addr.add; split <;> rfl
  rwa [hb] at this
theorem St.rdK {A : Option Addr} {l : List Int} (H : St w0 w (rRdK .i64 A l :: L)) : RdI w A l := by
  obtain ⟨T, S, h, _⟩ := H.fst; exact h.1.1
theorem St.blkK {g : Nat} {l : List Int} (hl : l.length ≤ 1048576) (H : St w0 w (rBlk g (.cells (intsV l).toArray 3) :: L)) : St w0 w (rRdK .i64 (some ⟨g, 0, none⟩) l :: L) :=
  H.freeze.imp fun T S h _ _ => ⟨⟨⟨rfl, by omega, fun _ => ⟨_, rfl, fun j p hp => ⟨[.int .i64 p], rfl, rfl, fun i u hu => by
    rcases i with _ | i
    · simp at hu
      subst hu
      rw [addr_add, cell_of_blk h.1.1]
      show (intsV l).toArray[0 + (j * 1 + 0)]? = _
      simp [intsV, hp]
    · simp at hu⟩⟩⟩, fun ad e hn => by cases e; exact h.1.2⟩, h.2⟩
set_option maxHeartbeats 1000000 in
theorem has_calls {A : Option Addr} {n c : Nat} {l : List Int} (h : RdI w A l) (hn : l.length = n) (x : Int) : Calls Tryd.prog 43 #[.slice A n c, .int .i64 x] w fun e w' => e = .returned (.bool (decide (x ∈ l))) ∧ w' = w := by
  have hb : n ≤ 9223372036854775807 := by rw [← hn]; exact h.2.1
  have HH := Aside0.mk h
  have HN := Aside0.mk hn
  clear h hn
  go_enter Tryd.func43, Tryd.ntmps43
  go_wp2_with fail
  go_loop [5] (fun v5 => ∃ j : Nat, v5 = .int .i64 (j : Int) ∧ j ≤ n ∧ Aside0 (x ∉ l.take j)) (fun v5 => n - (RowKit.intOf v5).toNat)
  case atStart => exact ⟨0, rfl, Nat.zero_le _, ⟨by simp⟩⟩
  case round =>
    obtain ⟨j, rfl, hj, HX⟩ := hrel
    by_cases hjn : j < n
    · have t1 : decide ((j : Int) < (n : Int)) = true := decide_eq_true (by omega)
      have t2 : (0 : Int) ≤ (j : Int) := by omega
      have t3 : (j : Int) < (n : Int) := by omega
      have hjl : j < l.length := by rw [HN.out]; exact hjn
      obtain ⟨ad, rfl, hc⟩ := RdI.at_ HH.out hjl
      obtain ⟨y, hy⟩ : ∃ y, y = l.getD j 0 := ⟨_, rfl⟩
      rw [← hy] at hc
      have hg : l[j] = y := by rw [hy, List.getD_eq_getElem?_getD, List.getElem?_eq_getElem hjl]; rfl
      by_cases hxy : y = x
      · have q : (y == x) = true := by simpa using hxy
        have hm : decide (x ∈ l) = true := decide_eq_true (by rw [← hxy, ← hg]; exact List.getElem_mem hjl)
        have HM := Aside0.mk hm
        clear hm hxy hg hy
        go_wp2
        go_ret
        rw [HM.out]
        exact ⟨rfl, rfl⟩
      · have q : (y == x) = false := by simpa using hxy
        have HX2 : Aside0 (x ∉ l.take (j + 1)) := ⟨by
          rw [List.take_succ_eq_append_getElem hjl, hg]
          simp only [List.mem_append, List.mem_singleton]
          exact fun h => h.elim HX.out (fun e => hxy e.symm)⟩
        clear hxy hg hy
        go_wp2
        go_round
        case rel => exact ⟨j + 1, by go_num, hjn, HX2⟩
        case measure => simp only [RowKit.intOf]; omega
    · have hje : j = n := by omega
      subst hje
      have t1 : decide ((j : Int) < (j : Int)) = false := decide_eq_false (by omega)
      have hm : decide (x ∈ l) = false := decide_eq_false (by have := HX.out; rwa [List.take_of_length_le (by rw [HN.out]; omega)] at this)
      have HM := Aside0.mk hm
      clear hm
      go_wp2
      go_ret
      rw [HM.out]
      exact ⟨rfl, rfl⟩
/-! ### ats -/
def atsStep (n : Nat) (acc : List Int) (x : Int) : List Int := if acc.length < 5 then (if ((8 + among x (n - 8) : Nat) : Int) ∈ acc then acc else acc ++ [((8 + among x (n - 8) : Nat) : Int)]) else acc
def atsL (n : Nat) (l : List Int) : List Int := l.foldl (atsStep n) []
theorem ats_full (n : Nat) : ∀ (l acc : List Int), 5 ≤ acc.length → l.foldl (atsStep n) acc = acc
  | [], acc, _ => rfl
  | x :: l, acc, h => by
    rw [List.foldl_cons]
    have e : atsStep n acc x = acc := by unfold atsStep; rw [if_neg (by omega)]
    rw [e, ats_full n l acc h]
theorem atsStep_ok {n : Nat} (hn : 9 ≤ n) {acc : List Int} (h : acc.length ≤ 5 ∧ (∀ x ∈ acc, 7 < x ∧ x < n) ∧ acc.Nodup) (x : Int) : (atsStep n acc x).length ≤ 5 ∧ (∀ y ∈ atsStep n acc x, 7 < y ∧ y < n) ∧ (atsStep n acc x).Nodup := by
  unfold atsStep
  have hk := among_lt x (m := n - 8) (by omega)
  split
  · split
    · exact h
    · rename_i h1 h2
      refine ⟨by simp; omega, fun y hy => ?_, ?_⟩
      · rcases List.mem_append.1 hy with hy | hy
        · exact h.2.1 y hy
        · rw [List.mem_singleton.1 hy]; omega
      · refine List.nodup_append.2 ⟨h.2.2, List.nodup_cons.2 ⟨by simp, List.nodup_nil⟩, fun a ha b hb e => ?_⟩
        rw [List.mem_singleton.1 hb] at e
        exact h2 (e ▸ ha)
  · exact h
theorem ats_ok {n : Nat} (hn : 9 ≤ n) : ∀ (l acc : List Int), (acc.length ≤ 5 ∧ (∀ x ∈ acc, 7 < x ∧ x < n) ∧ acc.Nodup) → (l.foldl (atsStep n) acc).length ≤ 5 ∧ (∀ y ∈ l.foldl (atsStep n) acc, 7 < y ∧ y < n) ∧ (l.foldl (atsStep n) acc).Nodup
  | [], acc, h => h
  | x :: l, acc, h => ats_ok hn l _ (atsStep_ok hn h x)
theorem atsL_ok {n : Nat} (hn : 9 ≤ n) (l : List Int) : (atsL n l).length ≤ 5 ∧ (∀ y ∈ atsL n l, 7 < y ∧ y < n) ∧ (atsL n l).Nodup :=
  ats_ok hn l [] ⟨by simp, fun x h => by simp at h, List.nodup_nil⟩
theorem eltI : Elt 22 3 1 8 := Elt.mk' (z := .int .i64 0) Tryd.underlying22 (by kernel_rfl) rfl (by decide)
theorem rRow_RdI {A : Option Addr} {n c : Nat} {l : List Int} (H : St w0 w (rRow 3 1 (.slice A n c) n (intsV l) :: L)) (hl : l.length = n) : RdI w A l := by
  by_cases h0 : n = 0
  · subst h0
    rw [List.length_eq_zero_iff.1 hl]
    exact ⟨rfl, by simp, fun h => absurd h (by simp)⟩
  · obtain ⟨g, c', e, hc⟩ := ownsRow_formC H.row (by omega)
    injection e with e1 _ e3
    subst e1 e3
    have hm : n ≤ 9223372036854775807 := by
      rcases H.row.2 with ⟨h, _⟩ | ⟨g', cap, cur, e, hb, hg, h3, h4, _⟩
      · cases h
      · simp only [maxLen] at h4; omega
    refine ⟨rfl, by omega, fun _ => ⟨_, rfl, fun j x hj => ⟨[.int .i64 x], rfl, rfl, fun i u hu => ?_⟩⟩⟩
    have hi : i = 0 := by have := (List.getElem?_eq_some_iff.1 hu).1; simpa using this
    subst hi
    have e : Value.int .i64 x = u := by simpa using hu
    subst e
    have := rRow_dat H j (.int .i64 x) (by rw [List.getElem?_map, hj]; rfl)
    simpa [Kd.int, Kd.scalar] using this
set_option maxHeartbeats 2000000 in
theorem St.ats {A : Option Addr} {c m n : Nat} {l : List Int} (H : St w0 w (rRdK .i64 A l :: L)) (hm : l.length = m) (hn : 9 ≤ n ∧ n ≤ 4096) : Calls Tryd.prog 18 #[.slice A m c, .int .i64 (n : Int)] w fun e w' => ∃ A' c', e = .returned (.slice A' (atsL n l).length c') ∧
    St w0 w' (rRow 3 1 (.slice A' (atsL n l).length c') (atsL n l).length (intsV (atsL n l)) :: rRdK .i64 A l :: L) := by
  have hb : m ≤ 9223372036854775807 := by rw [← hm]; exact H.rdK.2.1
  have H0 := Aside0.mk (H.newRow 3 1)
  have HM := Aside0.mk hm
  clear H hm
  go_enter Tryd.func18, Tryd.ntmps18
  go_wp2_with fail
  go_loopw [5, 6] (fun v5 v6 W => ∃ (j : Nat) (acc : List Int) (k : Nat) (A' : Option Addr) (c' : Nat), v6 = .int .i64 (j : Int) ∧ v5 = .slice A' k c' ∧ j ≤ m ∧ Aside0 (acc.length = k) ∧ k ≤ 5 ∧ Aside0 (acc = (l.take j).foldl (atsStep n) []) ∧
    Aside0 (St w0 W (rRow 3 1 (.slice A' k c') k (intsV acc) :: rRdK .i64 A l :: L))) (fun _ v6 _ => m - (RowKit.intOf v6).toNat)
  case atStart => exact ⟨0, [], 0, _, _, rfl, rfl, Nat.zero_le _, ⟨rfl⟩, by omega, ⟨rfl⟩, H0⟩
  case round =>
    clear H0
    obtain ⟨j, acc, k, A', c', rfl, rfl, hj, HK, hk5, HA, HS⟩ := hrel
    by_cases hjm : j < m
    · have t1 : decide ((j : Int) < (m : Int)) = true := decide_eq_true (by omega)
      have t2 : (0 : Int) ≤ (j : Int) := by omega
      have t3 : (j : Int) < (m : Int) := by omega
      by_cases hk : k < 5
      · have t4 : decide ((k : Int) < 5) = true := decide_eq_true (by omega)
        have hjl : j < l.length := by rw [HM.out]; exact hjm
        obtain ⟨ad, hA, hc⟩ := RdI.at_ HS.out.drop.rdK hjl
        subst hA
        obtain ⟨y, hy⟩ : ∃ y, y = l.getD j 0 := ⟨_, rfl⟩
        rw [← hy] at hc
        have hg : l[j] = y := by rw [hy, List.getD_eq_getElem?_getD, List.getElem?_eq_getElem hjl]; rfl
        have e8 : ((n - 8 : Nat) : Int) = (n : Int) - 8 := by omega
        have ham := Aside0.mk (among_calls wr y (m := n - 8) (by omega) (by omega))
        have hlt := among_lt y (m := n - 8) (by omega)
        obtain ⟨q, hq⟩ : ∃ q, q = among y (n - 8) := ⟨_, rfl⟩
        rw [← hq, e8] at ham
        rw [← hq] at hlt
        have q4 : (q : Int) < 4096 := by omega
        have hstep : (l.take (j + 1)).foldl (atsStep n) [] = if ((8 + q : Nat) : Int) ∈ acc then acc else acc ++ [((8 + q : Nat) : Int)] := by
          rw [List.take_succ_eq_append_getElem hjl, List.foldl_append, ← HA.out, hg]
          show atsStep n acc y = _
          unfold atsStep
          rw [if_pos (by rw [HK.out]; exact hk), ← hq]
        have eq8 : ((8 + q : Nat) : Int) = 8 + (q : Int) := by omega
        rw [eq8] at hstep
        generalize hv : (8 : Int) + (q : Int) = v at hstep
        have hhas := Aside0.mk (has_calls (c := c') (rRow_RdI HS.out HK.out) HK.out v)
        have HST := Aside0.mk hstep
        have HV := Aside0.mk hv
        clear hy hg hq hv hstep hlt e8 eq8
        go_upto_region 6 with (go_at_call 16; refine ham.out.mono ?_; rintro e w2 ⟨rfl, rfl⟩)
        rw [HV.out]
        clear ham hc q4
        by_cases hmem : v ∈ acc
        · have q1 : decide (v ∈ acc) = true := decide_eq_true hmem
          rw [q1] at hhas
          have HST2 : Aside0 (acc = (l.take (j + 1)).foldl (atsStep n) []) := ⟨by rw [HST.out, if_pos hmem]⟩
          clear hmem q1 HST
          go_wp2_with fail
          refine hhas.out.mono ?_
          rintro e w2 ⟨rfl, rfl⟩
          clear hhas
          go_wp2
          go_roundw
          case rel => exact ⟨j + 1, acc, k, A', c', by go_num, rfl, hjm, HK, hk5, HST2, HS⟩
          case measure => simp only [RowKit.intOf]; omega
        · have q1 : decide (v ∈ acc) = false := decide_eq_false hmem
          rw [q1] at hhas
          have HST2 : Aside0 (acc ++ [v] = (l.take (j + 1)).foldl (atsStep n) []) := ⟨by rw [HST.out, if_neg hmem]⟩
          clear hmem q1 HST
          go_wp2_with fail
          refine hhas.out.mono ?_
          rintro e w2 ⟨rfl, rfl⟩
          clear hhas
          obtain ⟨v', w1, hrun, H1⟩ := (HS.out.alloc (.cells #[.int .i64 v] 3)).drop.appE eltI ⟨w2.heap.size, 0, none⟩ 1 1 [.int .i64 v] rfl (cell_one_new _ _ _) (fun u hu => by simp at hu; subst hu; rfl) (by omega) (by omega)
          obtain ⟨A2, c2, rfl⟩ := own_slice H1.row
          have H1 := Aside0.mk H1
          go_wp2_with (at_builtin; refine wpl_appT rfl (.tmp 32) (.tmp 34) rfl rfl hrun rfl rfl ?_)
          have e1 : intsV acc ++ [.int .i64 v] = intsV (acc ++ [v]) := by simp [intsV]
          rw [e1] at H1
          have HK2 : Aside0 ((acc ++ [v]).length = k + 1) := ⟨by rw [List.length_append, HK.out]; rfl⟩
          clear hrun e1
          go_roundw
          case rel => exact ⟨j + 1, acc ++ [v], k + 1, A2, c2, by go_num, rfl, hjm, HK2, by omega, HST2, H1⟩
          case measure => simp only [RowKit.intOf]; omega
      · have t4 : decide ((k : Int) < 5) = false := decide_eq_false (by omega)
        have hfin : acc = atsL n l := by
          have h5 := ats_full n (l.drop j) acc (by rw [HK.out]; omega)
          have h6 : (l.drop j).foldl (atsStep n) ((l.take j).foldl (atsStep n) []) = atsL n l := by
            unfold atsL
            rw [← List.foldl_append, List.take_append_drop]
          rw [← h6, ← HA.out, h5]
        have HF := Aside0.mk hfin
        clear hfin
        go_wp2
        go_ret
        rw [← HF.out, HK.out]
        exact ⟨_, _, rfl, HS.out⟩
    · have hje : j = m := by omega
      subst hje
      have t1 : decide ((j : Int) < (j : Int)) = false := decide_eq_false (by omega)
      have hfin : acc = atsL n l := by rw [HA.out, List.take_of_length_le (by rw [HM.out]; omega)]; rfl
      have HF := Aside0.mk hfin
      clear hfin
      go_wp2
      go_ret
      rw [← HF.out, HK.out]
      exact ⟨_, _, rfl, HS.out⟩
end
end Go.Proofs.YtfhdiddlloiglaaDoor
end
section
/- The laws' helpers: blocks. -/
namespace Go.Proofs.YtfhdiddlloiglaaDoor
open Go.RowKit Go.Proofs.YtfhdiddlloiglaaDoorW.PrintWords
attribute [local go_sem ↓] Go.wp_at_zero Go.wp_at_succ
set_option linter.unusedVariables false
set_option linter.unusedSimpArgs false
set_option maxRecDepth 100000

def blocksTo (l : List Int) (f : Int) (j : Nat) : List (Int × Sec) := (List.range j).map fun i => (l.getD i 0, fullB ((f + i) % 256))
theorem blocksTo_succ (l : List Int) (f : Int) (j : Nat) : blocksTo l f (j + 1) = blocksTo l f j ++ [(l.getD j 0, fullB ((f + j) % 256))] := by
  unfold blocksTo
  rw [List.range_succ, List.map_append]; rfl
section
variable {w0 w : World} {p lp : Nat} {d : Dsk} {L : List Res}
theorem St.datsNil (H : St w0 w L) : St w0 w (rDats [] [] :: L) := H.emp.imp fun T S h _ _ => ⟨⟨rfl, fun i e x he => by simp at he⟩, h⟩
theorem St.datsNew {es : List BE} {ls : List (Int × Sec)} {g o c : Nat} {at_ : Int} {b : Sec} (H : St w0 w (rCells g o (bytes b) :: rDats es ls :: L)) (hc : 256 ≤ c) (hb : b.length = 256) (hby : Bytes b) :
    St w0 w (rDats (es ++ [⟨at_, g, o, c⟩]) (ls ++ [(at_, b)]) :: L) :=
  H.join.imp fun T S h _ _ => by
    obtain ⟨S1, S2, h1, h2, _, e⟩ := h
    refine ⟨⟨by simp [h2.1.1], fun i x y hx hy => ?_⟩, fun i hi => ((e i).1 hi).elim (h1.2 i) (h2.2 i)⟩
    rcases Nat.lt_or_ge i es.length with hi | hi
    · rw [List.getElem?_append_left hi] at hx
      rw [List.getElem?_append_left (by rw [← h2.1.1]; exact hi)] at hy
      exact h2.1.2 i x y hx hy
    · rw [List.getElem?_append_right hi] at hx
      rw [List.getElem?_append_right (by rw [← h2.1.1]; exact hi), ← h2.1.1] at hy
      rcases hk : i - es.length with _ | k
      · rw [hk] at hx hy
        simp at hx hy
        subst hx hy
        exact ⟨rfl, hc, hb, hby, h1.1⟩
      · rw [hk] at hx
        simp at hx
theorem St.rdCell {ad : Addr} {l : List Int} {j : Nat} (H : St w0 w (rRdK .i64 (some ad) l :: L)) (hj : j < l.length) : w.cell? (ad.add j) = some (.int .i64 (l.getD j 0)) := by
  obtain ⟨ad', e, h⟩ := RdI.at_ H.rdK hj
  cases e
  exact h
theorem encB_snoc (es : List BE) (x : BE) : encB (es ++ [x]) = encB es ++ [.int .i64 x.at_, .slice (some ⟨x.g, x.o, none⟩) 256 x.c] := by simp [encB]
theorem rRow_cap {e : TypeId} {size n c : Nat} {ad : Addr} {xs : List Value} (H : St w0 w (rRow e size (.slice (some ad) n c) n xs :: L)) : n ≤ c := by
  rcases H.row.2 with ⟨h, _⟩ | ⟨g, cap, cur, e, hb, hg, h3, _⟩
  · cases h
  · injection e with _ _ e; subst e; exact h3
theorem cells_new (w : World) (xs : List Value) (t : TypeId) : ∀ j u, xs[j]? = some u → (w.alloc (.cells xs.toArray t)).cell? ((⟨w.heap.size, 0, none⟩ : Addr).add j) = some u := fun j u hj => by
  rw [addr_add, Nat.zero_add, cell_of_blk (MapKept.heap_alloc w _).1]
  simpa using hj
/-- Behind a new sector: the block that is appended. -/
theorem St.blocksArm {f y : Int} {g cc j c' : Nat} {ad : Addr} {A' : Option Addr} {es : List BE} {ls : List (Int × Sec)} {l : List Int} (h2 : St w0 w (rRow 5 1 (.slice (some ⟨g, 0, none⟩) 256 cc) 256 (bytes (fullS f)) :: rRow 48 2 (.slice A' j c') j (encB es) :: rDats es ls :: rRdK .i64 (some ad) l :: L)) (hf : 0 ≤ f ∧ f ≤ 255) (hj : j < l.length) (hj2 : j ≤ 1048576) (hy : y = l.getD j 0) :
    ∃ A2 c2 W3, AppRunT 35 (.slice A' j c') (.slice (some ⟨w.heap.size, 0, none⟩) 1 1) (w.alloc (.cells #[.int .i64 y, .slice (some ⟨g, 0, none⟩) 256 cc] 48)) (.slice A2 (j + 1) c2) W3 ∧
      St w0 W3 (rRow 48 2 (.slice A2 (j + 1) c2) (j + 1) (encB (es ++ [⟨y, g, 0, cc⟩])) :: rDats (es ++ [⟨y, g, 0, cc⟩]) (ls ++ [(y, fullB f)]) :: rRdK .i64 (some ad) l :: L) ∧
      w.cell? (ad.add j) = some (.int .i64 y) ∧ (w.alloc (.cells #[.int .i64 y, .slice (some ⟨g, 0, none⟩) 256 cc] 48)).cell? (ad.add j) = some (.int .i64 y) ∧ W3.cell? (ad.add j) = some (.int .i64 y) := by
  have hcc := rRow_cap h2
  have h3 := (h2.rowCells.order [0, 2, 1] (by decide)).datsNew (at_ := y) hcc (fullB_len f) (fullB_byte hf)
  have h4 := (St.swap h3).alloc (.cells #[.int .i64 y, .slice (some ⟨g, 0, none⟩) 256 cc] 48)
  obtain ⟨v', W3, hrun, h5⟩ := h4.drop.appE eltB ⟨w.heap.size, 0, none⟩ 1 1 [.int .i64 y, .slice (some ⟨g, 0, none⟩) 256 cc] rfl (cells_new w [.int .i64 y, .slice (some ⟨g, 0, none⟩) 256 cc] 48) (fun u hu => by simp at hu; rcases hu with rfl | rfl <;> rfl) (by omega) (by omega)
  obtain ⟨A2, c2, rfl⟩ := own_slice h5.row
  rw [← encB_snoc es ⟨y, g, 0, cc⟩] at h5
  refine ⟨A2, c2, W3, hrun, h5, ?_, ?_, ?_⟩
  · rw [hy]; exact h2.drop.drop.drop.rdCell hj
  · rw [hy]; rw [hy] at h4; exact h4.drop.drop.drop.rdCell hj
  · rw [hy]; exact h5.drop.drop.rdCell hj
set_option maxHeartbeats 2000000 in
theorem St.blocks {A : Option Addr} {c m : Nat} {l : List Int} {f : Int} (H : St w0 w (rRdK .i64 A l :: L)) (hm : l.length = m) (hm2 : m ≤ 1048576) (hf : 0 ≤ f ∧ f ≤ 255) : Calls Tryd.prog 12 #[.slice A m c, .int .u8 f] w fun e w' => ∃ (A' : Option Addr) (c' : Nat) (es : List BE), e = .returned (.slice A' m c') ∧
    St w0 w' (rRow 48 2 (.slice A' m c') m (encB es) :: rDats es (blocksTo l f m) :: rRdK .i64 A l :: L) := by
  have H0 := Aside0.mk (St.swap ((H.newRow 48 2).datsNil))
  have HM := Aside0.mk hm
  clear H hm
  go_enter Tryd.func12, Tryd.ntmps12
  go_wp2_with fail
  go_loopw [5, 6] (fun v5 v6 W => ∃ (j : Nat) (A' : Option Addr) (c' : Nat) (es : List BE), v6 = .int .i64 (j : Int) ∧ v5 = .slice A' j c' ∧ j ≤ m ∧
    Aside0 (St w0 W (rRow 48 2 (.slice A' j c') j (encB es) :: rDats es (blocksTo l f j) :: rRdK .i64 A l :: L))) (fun _ v6 _ => m - (RowKit.intOf v6).toNat)
  case atStart => exact ⟨0, _, _, [], rfl, rfl, Nat.zero_le _, H0⟩
  case round =>
    clear H0
    obtain ⟨j, A', c', es, rfl, rfl, hj, HS⟩ := hrel
    by_cases hjm : j < m
    · have t1 : decide ((j : Int) < (m : Int)) = true := decide_eq_true (by omega)
      have t2 : (0 : Int) ≤ (j : Int) := by omega
      have t3 : (j : Int) < (m : Int) := by omega
      have hjl : j < l.length := by rw [HM.out]; exact hjm
      obtain ⟨ad, hA, hc⟩ := RdI.at_ HS.out.drop.drop.rdK hjl
      subst hA
      obtain ⟨y, hy⟩ : ∃ y, y = l.getD j 0 := ⟨_, rfl⟩
      rw [← hy] at hc
      obtain ⟨fj, hfj⟩ : ∃ fj, fj = (f + j) % 256 := ⟨_, rfl⟩
      have wu : IntKind.u8.wrap (f + IntKind.u8.wrap (j : Int)) = fj := by rw [hfj]; simp only [IntKind.wrap, IntKind.bits, IntKind.signed]; simp
      have hfb : 0 ≤ fj ∧ fj ≤ 255 := by omega
      have hbl : blocksTo l f (j + 1) = blocksTo l f j ++ [(y, fullB fj)] := by rw [blocksTo_succ, ← hy, ← hfj]
      have HD := HS.out.drew
      have hfull := CallAt.mk (HD.full fj)
      have K0 : Aside0 (wr.drew.cell? (ad.add j) = some (.int .i64 y)) := ⟨hc⟩
      have HY := Aside0.mk hy
      have HBL := Aside0.mk hbl
      have HJL := Aside0.mk hjl
      have HFB := Aside0.mk hfb
      clear hy hfj hbl hjl HD HS hfb
      go_wp2_with fail
      go_region_held3 (fun W => W.cell? (ad.add j) = some (.int .i64 y))
        ((first | exact K0.out | exact K1.out | exact K2.out | exact K3.out))
        ((first
          | (go_at_call 40; refine CallAt.out ?_; refine CallAt.mono hfull ?_; rintro e W2 ⟨g, cc, rfl, h2⟩; obtain ⟨A2, c2, W3, hrun, h5, k1, k2, k3⟩ := h2.blocksArm HFB.out HJL.out (by omega) HY.out; have H5 := Aside0.mk h5; have K1 := Aside0.mk k1; have K2 := Aside0.mk k2; have K3 := Aside0.mk k3; clear h2 h5 k1 k2 k3)
          | (refine step_appT rfl (.tmp 14) (.tmp 25) rfl rfl hrun rfl rfl ?_)))
      all_goals (
        go_wp2
        go_roundw
        case rel => exact ⟨j + 1, A2, c2, es ++ [⟨y, g, 0, cc⟩], by go_num, rfl, hjm, ⟨by rw [HBL.out]; exact H5.out⟩⟩
        case measure => simp only [RowKit.intOf]; omega)
    · have hje : j = m := by omega
      subst hje
      have t1 : decide ((j : Int) < (j : Int)) = false := decide_eq_false (by omega)
      go_wp2
      go_ret
      exact ⟨_, _, es, rfl, HS.out⟩
end
end Go.Proofs.YtfhdiddlloiglaaDoor
end
section
/- The laws' helpers: begun, all. -/
namespace Go.Proofs.YtfhdiddlloiglaaDoor
open Go.RowKit Go.Proofs.YtfhdiddlloiglaaDoorW.PrintWords
attribute [local go_sem ↓] Go.wp_at_zero Go.wp_at_succ
set_option linter.unusedVariables false
set_option linter.unusedSimpArgs false
set_option maxRecDepth 100000

section
variable {w0 w : World} {p lp : Nat} {d : Dsk} {L : List Res}
set_option maxHeartbeats 2000000 in
theorem St.begun {n : Nat} (H : St w0 w L) (hT : Half w0) (hn : 9 ≤ n ∧ n ≤ 200) : Calls Tryd.prog 17 #[.int .i64 (n : Int)] w fun e w' => ∃ p lp : Nat, e = .returned (.tuple #[.pointer (some ⟨p, 0, none⟩), .pointer (some ⟨lp, 0, none⟩)]) ∧
    St w0 w' (rBlk lp (walObj p ⟨2, 5, 0, false⟩) :: rDisk p (begunD n) :: L) := by
  have HN := Aside0.mk (H.new (n := n) (by omega) (by omega))
  have HT := Aside0.mk hT
  clear H hT
  go_enter Tryd.func17, Tryd.ntmps17
  go_wp2_with fail
  refine HN.out.mono ?_
  rintro e w1 ⟨p, rfl, H1⟩
  have hf := H1.formatL HT.out 2 5 (by omega) (by show 0 + 2 < maxTaken; unfold maxTaken; omega)
  rw [format_new hn.1] at hf
  have HF := Aside0.mk hf
  clear HN H1 hf
  go_wp2_with fail
  refine HF.out.mono ?_
  rintro e w2 ⟨rfl, H2⟩
  have HO := Aside0.mk (H2.openL HT.out 2 5 (by omega) (by show 2 + (8 - 8) + 103 < maxTaken; unfold maxTaken; omega) (open_mid hn.1 (by omega)))
  clear HF H2
  go_wp2_with fail
  refine HO.out.mono ?_
  rintro e w3 (⟨_, lp, rfl, H3⟩ | ⟨h, _⟩)
  · have H4 := Aside0.mk (St.swap H3)
    clear HO H3
    go_wp2_with fail
    go_loopw [8] (fun v8 W => ∃ i : Nat, v8 = .int .i64 (i : Int) ∧ 8 ≤ i ∧ i ≤ n ∧ Aside0 (St w0 W (rDisk p (midD n i) :: rBlk lp (walObj p ⟨2, 5, 0, false⟩) :: L))) (fun v8 _ => n - (RowKit.intOf v8).toNat)
    case atStart => exact ⟨8, rfl, by omega, by omega, H4⟩
    case round =>
      clear H4
      obtain ⟨i, rfl, h8, hi, HI⟩ := hrel
      by_cases hin : i < n
      · have t1 : decide ((i : Int) < (n : Int)) = true := decide_eq_true (by omega)
        have wu : IntKind.u8.wrap (i : Int) = (i : Int) := by simp only [IntKind.wrap, IntKind.bits, IntKind.signed]; simp; omega
        have HFU := Aside0.mk (HI.out.full (i : Int))
        go_wp2_with fail
        refine HFU.out.mono ?_
        rintro e w4 ⟨g, cc, rfl, H5⟩
        have hw := (St.swap H5).writeRow (fullS_len _) (fullS_mem (by omega)) (by show 2 + (i - 8) < maxTaken; unfold maxTaken; omega) (i : Int)
        rw [show fullS (i : Int) = fullB (i : Int) from rfl, mid_write h8 hin] at hw
        have HW := Aside0.mk hw
        clear hw H5 HFU HI
        go_wp2_with fail
        refine HW.out.mono ?_
        rintro e w5 ⟨rfl, H6⟩
        have H6 := Aside0.mk H6
        clear HW
        go_wp2
        go_roundw
        case rel => exact ⟨i + 1, by go_num, by omega, hin, H6⟩
        case measure => simp only [RowKit.intOf]; omega
      · have hie : i = n := by omega
        subst hie
        have t1 : decide ((i : Int) < (i : Int)) = false := decide_eq_false (by omega)
        have hs := HI.out.sync (by show 2 + (i - 8) < maxTaken; unfold maxTaken; omega)
        rw [mid_sync hn.1] at hs
        have HS := Aside0.mk hs
        clear hs HI
        go_wp2_with fail
        refine HS.out.mono ?_
        rintro e w4 ⟨rfl, H5⟩
        have H5 := Aside0.mk (St.swap H5)
        clear HS
        go_wp2
        go_ret2
        exact ⟨_, _, rfl, H5.out⟩
  · exact absurd rfl h
def allB (d : Dsk) (ls : List (Int × Sec)) : Bool := ls.all fun x => decide (lastOf (d.vals.getD x.1.toNat []) = x.2)
theorem St.readIn (H : St w0 w (rDisk p d :: L)) {i : Int} (hi : 0 ≤ i ∧ i < d.vals.length) (hoff : d.off = false) :
    Calls Tryd.prog 19 #[.pointer (some ⟨p, 0, none⟩), .int .i64 i] w fun e w' => ∃ g c, e = .returned (.tuple #[.slice (some ⟨g, 0, none⟩) 256 c, .int .i64 0]) ∧ St w0 w' (rRow 5 1 (.slice (some ⟨g, 0, none⟩) 256 c) 256 (bytes (lastOf (d.vals.getD i.toNat []))) :: rDisk p d :: L) :=
  St.readRow (i := i.toNat) H H (by omega) (by omega) hoff
set_option maxHeartbeats 2000000 in
theorem St.all {A : Option Addr} {n c : Nat} {es : List BE} {ls : List (Int × Sec)} (H : St w0 w (rDisk p d :: rRow 48 2 (.slice A n c) n (encB es) :: rDats es ls :: L)) (hn : n ≤ 1048576) (hoff : d.off = false) (hin : ∀ x ∈ ls, 0 ≤ x.1 ∧ x.1 < d.vals.length) :
    Calls Tryd.prog 22 #[.pointer (some ⟨p, 0, none⟩), .slice A n c] w fun e w' => e = .returned (.bool (allB d ls)) ∧ St w0 w' (rDisk p d :: rRow 48 2 (.slice A n c) n (encB es) :: rDats es ls :: L) := by
  have hel : es.length = n := by have := H.drop.row.1; rw [encB_len] at this; omega
  have hll : es.length = ls.length := by obtain ⟨T, S, h, _⟩ := H.drop.drop.fst; exact h.1.1
  have H0 := Aside0.mk H
  have HEL := Aside0.mk hel
  have HLL := Aside0.mk hll
  have HOF := Aside0.mk hoff
  have HIN := Aside0.mk hin
  clear H hel hll hoff hin
  go_enter Tryd.func22, Tryd.ntmps22
  go_wp2_with fail
  go_loopw [5] (fun v5 W => ∃ j : Nat, v5 = .int .i64 (j : Int) ∧ j ≤ n ∧ Aside0 (allB d (ls.take j) = true) ∧ Aside0 (St w0 W (rDisk p d :: rRow 48 2 (.slice A n c) n (encB es) :: rDats es ls :: L))) (fun v5 _ => n - (RowKit.intOf v5).toNat)
  case atStart => exact ⟨0, rfl, Nat.zero_le _, ⟨rfl⟩, H0⟩
  case round =>
    clear H0
    obtain ⟨j, rfl, hj, HA, HS⟩ := hrel
    by_cases hjn : j < n
    · have t1 : decide ((j : Int) < (n : Int)) = true := decide_eq_true (by omega)
      have t1' : (j : Int) < (n : Int) := by omega
      have q0 : (0 : Int) ≤ (j : Int) := by omega
      obtain ⟨lb, cA, eA, _⟩ := ownsRow_formC HS.out.drop.row (by omega)
      injection eA with eA _ eC
      subst eA
      subst eC
      have hje : j < es.length := by rw [HEL.out]; exact hjn
      have hjl : j < ls.length := by rw [← HLL.out]; exact hje
      obtain ⟨e, he⟩ : ∃ e, e = es[j] := ⟨_, rfl⟩
      obtain ⟨x, hx⟩ : ∃ x, x = ls[j] := ⟨_, rfl⟩
      have hg := encB_get es hje
      rw [← he] at hg
      have l0 := rRow_dat HS.out.drop _ _ hg.1
      rw [addr_add, Nat.zero_add] at l0
      obtain ⟨⟨ha, hc, hsl, hby⟩, hcells⟩ := HS.out.drop.drop.dat (i := j) (e := e) (x := x) (by rw [he, List.getElem?_eq_getElem hje]) (by rw [hx, List.getElem?_eq_getElem hjl])
      have hxin := HIN.out x (by rw [hx]; exact List.getElem_mem hjl)
      rw [← ha] at hxin
      have HRD := Aside0.mk (HS.out.readIn hxin HOF.out)
      have htk : allB d (ls.take (j + 1)) = decide (lastOf (d.vals.getD e.at_.toNat []) = x.2) := by
        rw [List.take_succ_eq_append_getElem hjl]
        unfold allB
        rw [List.all_append]
        have := HA.out
        unfold allB at this
        rw [this, ← hx, ha]; simp
      obtain ⟨s, hs⟩ : ∃ s, s = lastOf (d.vals.getD e.at_.toNat []) := ⟨_, rfl⟩
      rw [← hs] at HRD htk
      have hsz : s.length = 256 := by rw [hs]; exact (HS.out.diskOk.sec_at (by omega)).1
      have HTK := Aside0.mk htk
      have HSZ := Aside0.mk hsz
      have HX := Aside0.mk hx
      have HE := Aside0.mk he
      have HSL := Aside0.mk hsl
      have HJE := Aside0.mk hje
      have HJL := Aside0.mk hjl
      clear hg he hx ha hc hsl hby hcells hxin htk hs hsz HS
      go_wp2_with fail
      refine HRD.out.mono ?_
      rintro e' w2 ⟨g, cg, rfl, H2⟩
      have hg := encB_get es HJE.out
      rw [← HE.out] at hg
      have l1 := rRow_dat H2.drop.drop _ _ hg.2
      rw [addr_add, Nat.zero_add] at l1
      obtain ⟨_, hcells⟩ := H2.drop.drop.drop.dat (i := j) (e := e) (x := x) (by rw [HE.out, List.getElem?_eq_getElem HJE.out]) (by rw [HX.out, List.getElem?_eq_getElem HJL.out])
      have hrd : Rd w2 (some ⟨e.g, e.o, none⟩) x.2 := by
        obtain ⟨T, S, h, _⟩ := hcells.fst
        exact h.1.rd (by rw [HSL.out]; decide)
      have HSM := Aside0.mk (same_of (c1 := cg) (c2 := e.c) (H2.rdRow HSZ.out) hrd HSZ.out HSL.out)
      have H2 := Aside0.mk H2
      clear hg l0 hcells hrd HRD
      go_wp2_with fail
      refine HSM.out.mono ?_
      rintro e' w3 ⟨rfl, hb⟩
      have H3 := Aside0.mk ((H2.out.go hb).drop)
      clear HSM H2 hb l1
      by_cases hsx : s = x.2
      · have q : decide (s = x.2) = true := decide_eq_true hsx
        have HA2 : Aside0 (allB d (ls.take (j + 1)) = true) := ⟨by rw [HTK.out]; exact q⟩
        clear hsx
        go_wp2
        go_roundw
        case rel => exact ⟨j + 1, by go_num, hjn, HA2, H3⟩
        case measure => simp only [RowKit.intOf]; omega
      · have q : decide (s = x.2) = false := decide_eq_false hsx
        have hr : allB d ls = false := by
          have h1 : allB d (ls.take (j + 1)) = false := by rw [HTK.out]; exact q
          unfold allB at h1 ⊢
          rw [List.all_eq_false] at h1 ⊢
          obtain ⟨y, hy, h⟩ := h1
          exact ⟨y, List.mem_of_mem_take hy, h⟩
        have HR := Aside0.mk hr
        clear hsx hr
        go_wp2
        go_ret
        rw [HR.out]
        exact ⟨rfl, H3.out⟩
    · have hje : j = n := by omega
      subst hje
      have t1 : decide ((j : Int) < (j : Int)) = false := decide_eq_false (by omega)
      have hr : allB d ls = true := by have := HA.out; rwa [List.take_of_length_le (by rw [← HLL.out, HEL.out]; omega)] at this
      have HR := Aside0.mk hr
      clear hr
      go_wp2
      go_ret
      rw [HR.out]
      exact ⟨rfl, HS.out⟩
end
end Go.Proofs.YtfhdiddlloiglaaDoor
end
section
/- The chapter's example; a log that no call made. -/
namespace Go.Proofs.YtfhdiddlloiglaaDoor
open Go.RowKit Go.Proofs.YtfhdiddlloiglaaDoorW.PrintWords
attribute [local go_sem ↓] Go.wp_at_zero Go.wp_at_succ
set_option linter.unusedVariables false
set_option linter.unusedSimpArgs false
set_option maxRecDepth 100000

section
variable {w0 w : World} {p lp : Nat} {d : Dsk} {L : List Res}
/-! ### no disk -/
theorem disk_nil : IsNo none w := by
  go_enter Tryd.func47, Tryd.ntmps47
  go_wp2
  go_ret
  exact ⟨rfl, rfl⟩
theorem sectors_nil : Calls Tryd.prog 31 #[.pointer none] w fun e w' => e = .returned (.int .i64 0) ∧ w' = w := by
  have h := disk_nil (w := w)
  go_enter Tryd.func31, Tryd.ntmps31
  go_wp2_with fail
  refine h.mono ?_
  rintro e w1 ⟨rfl, rfl⟩
  go_wp2
  go_ret
  exact ⟨rfl, rfl⟩
set_option maxHeartbeats 600000 in
theorem readLog_nil (a c : Int) : Calls Tryd.prog 28 #[.pointer none, .int .i64 a, .int .i64 c] w fun e w' => e = .returned (.tuple #[.agg #[.int .i64 0, .slice none 0 0, .slice none 0 0], .int .i64 1]) ∧ Below w.heap.size w w' := by
  have H1 := ((((St.start w).alloc (.cells #[.pointer none] 25)).alloc (.cells #[.int .i64 a] 3)).alloc (.cells #[.int .i64 c] 3)).alloc (.cells #[.int .i64 0, .slice none 0 0, .slice none 0 0] 62)
  obtain ⟨b3, hb3⟩ : ∃ b, b = w.heap.size := ⟨_, rfl⟩
  simp only [size_alloc] at H1
  rw [← hb3] at H1
  go_enter Tryd.func28, Tryd.ntmps28
  go_upto_region 1 with fail
  rw [← hb3]
  generalize (((w.alloc (.cells #[.pointer none] 25)).alloc (.cells #[.int .i64 a] 3)).alloc (.cells #[.int .i64 c] 3)).alloc (.cells #[.int .i64 0, .slice none 0 0, .slice none 0 0] 62) = W1 at H1 ⊢
  generalize b3 + 1 + 1 + 1 = b6 at H1 ⊢
  have H2 := Aside0.mk (H1.order [3, 0, 1, 2] (by decide)).blk
  have hs := sectors_nil (w := W1)
  have H3 := Aside0.mk H1
  have c0 := cell_of_blk H1.blk 0
  have c1 := cell_of_blk H1.blk 1
  have c2 := cell_of_blk H1.blk 2
  have f0 := free_of_blk H1.blk 0
  have f1 := free_of_blk H1.blk 1
  have f2 := free_of_blk H1.blk 2
  have k3 : W1.cell? ⟨b3, 0, none⟩ = some (.pointer none) := cell_of_blk H2.out 0
  have HB := Aside0.mk (H1.below)
  have HBB := Aside0.mk hb3
  clear H1 H2 hb3
  go_wp2_with fail
  refine hs.mono ?_
  rintro e w1 ⟨rfl, rfl⟩
  clear hs
  go_wp2
  refine bodyPost_ret (results_cell2 (p := 6) (t := 7) rfl _ _ b6 0 [_, _, _] _ rfl (blk_range3 H3.out.set3) Tryd.underlying62 rfl info62) rfl ?_
  exact ⟨rfl, H3.out.set3.below⟩
theorem open_nil (a c : Int) : Calls Tryd.prog 8 #[.pointer none, .int .i64 a, .int .i64 c] w fun e w' => e = .returned (.tuple #[.pointer none, .int .i64 1]) ∧ Below w.heap.size w w' := by
  have h := readLog_nil (w := w) a c
  go_enter Tryd.func8, Tryd.ntmps8
  go_wp2_with fail
  refine h.mono ?_
  rintro e w1 ⟨rfl, hb⟩
  have HB := Aside0.mk (hb.alloc (Nat.le_trans (Nat.le_refl _) hb.size) (.cells #[.int .i64 0, .slice none 0 0, .slice none 0 0] 62))
  clear h hb
  go_wp2
  go_ret2
  exact ⟨rfl, HB.out⟩
theorem check_nil (a c : Int) : Calls Tryd.prog 9 #[.pointer none, .int .i64 a, .int .i64 c] w fun e w' => e = .returned (.tuple #[.slice none 0 0, .int .i64 1]) ∧ Below w.heap.size w w' := by
  have h := readLog_nil (w := w) a c
  go_enter Tryd.func9, Tryd.ntmps9
  go_wp2_with fail
  refine h.mono ?_
  rintro e w1 ⟨rfl, hb⟩
  have HB := Aside0.mk (hb.alloc (Nat.le_trans (Nat.le_refl _) hb.size) (.cells #[.int .i64 0, .slice none 0 0, .slice none 0 0] 62))
  clear h hb
  go_wp2
  go_ret2
  exact ⟨rfl, HB.out⟩
theorem format_nil (a c : Int) : Calls Tryd.prog 10 #[.pointer none, .int .i64 a, .int .i64 c] w fun e w' => e = .returned (.int .i64 1) ∧ w' = w := by
  have h := sectors_nil (w := w)
  go_enter Tryd.func10, Tryd.ntmps10
  go_wp2_with fail
  refine h.mono ?_
  rintro e w1 ⟨rfl, rfl⟩
  go_wp2
  go_ret
  exact ⟨rfl, rfl⟩
theorem commit_no {P : Option Addr} (h : Calls Tryd.prog 34 #[.pointer P] w fun e w' => e = .returned (.bool false) ∧ w' = w) (A : Option Addr) (n c : Nat) : Calls Tryd.prog 11 #[.pointer P, .slice A n c] w fun e w' => e = .returned (.int .i64 1) ∧ w' = w := by
  go_enter Tryd.func11, Tryd.ntmps11
  go_wp2_with fail
  refine h.mono ?_
  rintro e w1 ⟨rfl, rfl⟩
  go_wp2
  go_ret
  exact ⟨rfl, rfl⟩
/-! ### the example -/
theorem blocksTo_two : blocksTo [7, 4] 9 2 = want8 := rfl
theorem blocksTo_one : blocksTo [3] 1 1 = [(3, fullB 1)] := rfl
set_option maxHeartbeats 4000000 in
theorem works_calls (hT : Half w) : Calls Tryd.prog 7 #[] w fun e w' => e = .returned (.bool true) ∧ Below w.heap.size w w' := by
  have HNEW := Aside0.mk ((St.start w).new (n := 8) (by omega) (by omega))
  have HT := Aside0.mk hT
  obtain ⟨d', hcm, hl, hoff, htk, h4, h7⟩ := commit8
  have HD := Aside0.mk (And.intro hcm (And.intro hl (And.intro hoff (And.intro htk (And.intro h4 h7)))))
  clear hT hcm hl hoff htk h4 h7
  go_enter Tryd.func7, Tryd.ntmps7
  go_wp2_with fail
  refine HNEW.out.mono ?_
  rintro e w1 ⟨p, rfl, H1⟩
  have hf := H1.formatL HT.out 0 3 (by omega) (by show 0 + 2 < maxTaken; unfold maxTaken; omega)
  rw [show formatD (newD 8) 0 3 = (0, fmtD 8 0) from format_fmt (n := 8) (a := 0) (by unfold place; omega) (by omega)] at hf
  have HF := Aside0.mk hf
  clear HNEW H1 hf
  go_wp2_with fail
  refine HF.out.mono ?_
  rintro e w2 ⟨rfl, H2⟩
  have HO := Aside0.mk (H2.openL HT.out 0 3 (by omega) (by show 2 + 103 < maxTaken; unfold maxTaken; omega) open8)
  clear HF H2
  go_wp2_with fail
  refine HO.out.mono ?_
  rintro e w3 (⟨_, lp, rfl, H3⟩ | ⟨h, _⟩)
  · obtain ⟨c0, c1, c2, c3, c4⟩ := walObj.cells H3.blk
    have HHM := Aside0.mk (wal_home c0 c1 c2 ⟨by decide, by decide⟩ ⟨by decide, by decide⟩)
    have H3 := Aside0.mk H3
    clear HO c1 c2 c3 c4 c0
    go_wp2_with fail
    refine HHM.out.mono ?_
    rintro e w4 ⟨rfl, hb⟩
    have H4 := Aside0.mk (H3.out.go hb)
    clear HHM H3 hb
    obtain ⟨c0, c1, c2, c3, c4⟩ := walObj.cells H4.out.blk
    have HCP := Aside0.mk (wal_cap c0 c2)
    have hop := (St.swap H4.out).ops
    rw [show (fmtD 8 0).taken = 2 from rfl] at hop
    have HOP := Aside0.mk hop
    clear hop
    clear c0 c1 c2 c3 c4
    go_wp2_with fail
    refine HCP.out.mono ?_
    rintro e w5 ⟨rfl, rfl⟩
    clear HCP
    go_wp2_with fail
    refine HOP.out.mono ?_
    rintro e w5 ⟨rfl, rfl⟩
    clear HOP
    have HB := Aside0.mk ((St.blkK (l := [7, 4]) (by simp) (H4.out.alloc (.cells #[.int .i64 7, .int .i64 4] 3))).blocks (c := 2) (m := 2) (f := 9) rfl (by omega) (by omega))
    clear H4
    go_wp2_with fail
    refine HB.out.mono ?_
    rintro e w6 ⟨A1, c1, es1, rfl, H5⟩
    have hc := (H5.order [3, 4, 0, 1, 2] (by decide)).commitL HT.out (by decide) (by decide) (by decide) (by decide) (by decide) (by show 2 + 301 < maxTaken; unfold maxTaken; omega)
    rw [blocksTo_two, HD.out.1] at hc
    have HC := Aside0.mk hc
    clear HB H5 hc
    go_wp2_with fail
    refine HC.out.mono ?_
    rintro e w7 ⟨rfl, H6⟩
    have hl8 := HD.out.2.1
    have HR := Aside0.mk ((St.swap H6).readIn (i := 4) (by omega) HD.out.2.2.1)
    clear HC H6 hl8
    go_wp2_with fail
    refine HR.out.mono ?_
    rintro e w8 ⟨g4, cc4, rfl, H7⟩
    have h7 := H7
    rw [show (4 : Int).toNat = 4 from rfl, HD.out.2.2.2.2.1] at h7
    have hl8 := HD.out.2.1
    have HR2 := Aside0.mk ((St.swap h7).readIn (i := 7) (by omega) HD.out.2.2.1)
    clear HR H7 h7 hl8
    go_wp2_with fail
    refine HR2.out.mono ?_
    rintro e w9 ⟨g7, cc7, rfl, H8⟩
    rw [show (7 : Int).toNat = 7 from rfl, HD.out.2.2.2.2.2] at H8
    have HO2 := Aside0.mk (St.swap H8).ops
    rw [HD.out.2.2.2.1] at HO2
    have k7 : w9.cell? ⟨g7, 0, none⟩ = some (.int .u8 9) := by
      have := rRow_dat H8 0 (.int .u8 9) (by rfl)
      rwa [addr_add] at this
    have k4 : w9.cell? ⟨g4, 0, none⟩ = some (.int .u8 10) := by
      have := rRow_dat (H8.order [2, 0, 1] (by decide)) 0 (.int .u8 10) (by rfl)
      rwa [addr_add] at this
    obtain ⟨c0, _, _, c3, _⟩ := walObj.cells (H8.order [3, 0, 1, 2] (by decide)).blk
    have HTN := Aside0.mk (wal_turn c0 c3)
    have H9 := Aside0.mk (H8.order [3, 1, 0, 2] (by decide))
    clear HR2 H8 c0 c3
    go_wp2_with fail
    refine HO2.out.mono ?_
    rintro e w10 ⟨rfl, rfl⟩
    clear HO2
    go_wp2_with fail
    refine HTN.out.mono ?_
    rintro e w10 ⟨rfl, rfl⟩
    clear HTN
    have HB := Aside0.mk ((St.blkK (l := [3]) (by simp) (H9.out.alloc (.cells #[.int .i64 3] 3))).blocks (c := 1) (m := 1) (f := 1) rfl (by omega) (by omega))
    clear H9 k4 k7
    go_wp2_with fail
    refine HB.out.mono ?_
    rintro e w11 ⟨A2, c2, es2, rfl, H10⟩
    have hc := (H10.order [3, 4, 0, 1, 2] (by decide)).commitL HT.out (by decide) (by decide) (by decide) (by decide) (by decide) (by rw [HD.out.2.2.2.1]; unfold maxTaken; omega)
    rw [blocksTo_one, commit8_bad] at hc
    have HC := Aside0.mk hc
    clear HB H10 hc
    go_wp2_with fail
    refine HC.out.mono ?_
    rintro e w12 ⟨rfl, H11⟩
    have HBL := Aside0.mk H11.below
    clear HC H11
    go_wp2
    go_ret
    exact ⟨rfl, HBL.out⟩
  · exact absurd rfl h
end
end Go.Proofs.YtfhdiddlloiglaaDoor
end
section
/- WalNone walked: a log that no call made does nothing. -/
namespace Go.Proofs.YtfhdiddlloiglaaDoor
open Go.RowKit Go.Proofs.YtfhdiddlloiglaaDoorW.PrintWords
attribute [local go_sem ↓] Go.wp_at_zero Go.wp_at_succ
set_option linter.unusedVariables false
set_option linter.unusedSimpArgs false
set_option maxRecDepth 100000

structure S51 where
  f0 : Int
  f1 : List Int
def k51 : Kd S51 := Kd.iso (Kd.pair (Kd.int .i64) (Kd.slice 3 (Kd.int .i64))) (fun x => (x.f0, x.f1))
theorem cut_at {w : World} {A : Option Addr} {n : Nat} {xs : List S51} (h : Kd.C k51 w A n xs) {i : Nat} (hi : i < xs.length) :
    ∃ (ad : Addr) (A4 : Option Addr) (c4 : Nat), A = some ad ∧ w.cell? (ad.add (i * 2)) = some (.int .i64 xs[i].f0) ∧ w.cell? ⟨(ad.add (i * 2)).block, (ad.add (i * 2)).off + 1, none⟩ = some (.slice A4 xs[i].f1.length c4) ∧ Kd.C (Kd.int .i64) w A4 xs[i].f1.length xs[i].f1 := by
  have hn := h.1
  obtain ⟨ad, e, hc⟩ := h.2.2 (by omega)
  obtain ⟨c, hs, hr, hcell0⟩ := hc i _ (List.getElem?_eq_getElem hi)
  have hcell : ∀ j u, c[j]? = some u → w.cell? (ad.add (i * 2 + j)) = some u := hcell0
  obtain ⟨c0, r0, rfl, h0, A4, c4, h4, l4, g4⟩ := hr
  have h0 : c0 = [.int .i64 xs[i].f0] := h0
  have h4 : r0 = [.slice A4 xs[i].f1.length c4] := h4
  subst h0 h4
  refine ⟨ad, A4, c4, e, hcell 0 _ rfl, ?_, g4⟩
  rw [← add_field _ _ 1 (by omega)]; exact hcell 1 _ rfl
section
variable {w0 w : World} {p lp : Nat} {d : Dsk} {L : List Res}
set_option maxHeartbeats 2000000 in
theorem none_calls (hT : Half w) {A : Option Addr} {c m : Nat} {l : List Int} (hl : RdI w A l) (hm : l.length = m) (hm2 : m ≤ 1048576) : Calls Tryd.prog 3 #[.slice A m c] w fun e w' => e = .returned (.bool true) ∧ Below w.heap.size w w' := by
  have HW := Aside0.mk (works_calls hT)
  have HR := Aside0.mk hl
  have HM := Aside0.mk hm
  have H0 := Aside0.mk (St.start w)
  clear hT hl hm
  go_enter Tryd.func3, Tryd.ntmps3
  go_wp2_with fail
  refine HW.out.mono ?_
  rintro e w1 ⟨rfl, hb⟩
  have h1 := ((H0.out.go hb).oldK (k := .i64) (l := l) (A := A) HR.out).alloc (.cells #[.pointer none, .int .i64 0, .int .i64 0, .int .i64 0, .bool false] 27)
  obtain ⟨z, hz⟩ : ∃ z, z = w1.heap.size := ⟨_, rfl⟩
  rw [← hz] at h1
  have H1 := Aside0.mk h1
  clear HW hb h1 H0
  go_upto_region 5 with fail
  rw [← hz]
  clear hz
  generalize w1.alloc (.cells #[.pointer none, .int .i64 0, .int .i64 0, .int .i64 0, .bool false] 27) = w2 at *
  have ho := Aside0.mk (open_nil (w := w2) 0 1)
  go_wp2_with fail
  refine ho.out.mono ?_
  rintro e w3 ⟨rfl, hb⟩
  have H3 := Aside0.mk (H1.out.go hb)
  have hc := Aside0.mk (check_nil (w := w3) 0 1)
  clear ho H1 hb
  go_wp2_with fail
  refine hc.out.mono ?_
  rintro e w4 ⟨rfl, hb⟩
  have H4 := Aside0.mk (H3.out.go hb)
  have hf := Aside0.mk (format_nil (w := w4) 0 1)
  clear hc H3 hb
  go_wp2_with fail
  refine hf.out.mono ?_
  rintro e w5 ⟨rfl, rfl⟩
  have hB := Aside0.mk ((St.swap H4.out).blocks (c := c) (f := 1) HM.out hm2 (by omega))
  clear hf H4
  go_wp2_with fail
  refine hB.out.mono ?_
  rintro e w6 ⟨A1, c1, es1, rfl, H6⟩
  have hn1 := Aside0.mk (commit_no (w := w6) wal_isNil A1 m c1)
  have hB2 := Aside0.mk ((H6.order [2, 0, 1, 3] (by decide)).blocks (c := c) (f := 1) HM.out hm2 (by omega))
  clear hB H6
  go_wp2_with fail
  refine hn1.out.mono ?_
  rintro e w7 ⟨rfl, rfl⟩
  clear hn1
  go_wp2_with fail
  refine hB2.out.mono ?_
  rintro e w8 ⟨A2, c2, es2, rfl, H8⟩
  have c0 : w8.cell? ⟨z, 0, none⟩ = some (.pointer none) := cell_of_blk (H8.order [5, 0, 1, 2, 3, 4] (by decide)).blk 0
  have hn2 := Aside0.mk (commit_no (w := w8) (wal_isZero c0) A2 m c2)
  obtain ⟨n1, n2, n3⟩ := wal_nil (w := w8)
  obtain ⟨z1, z2, z3⟩ := wal_zero c0
  have HB := Aside0.mk H8.below
  clear hB2 H8 c0
  go_wp2_with fail
  refine hn2.out.mono ?_
  rintro e w9 ⟨rfl, rfl⟩
  clear hn2
  go_wp2_with fail
  refine n1.mono ?_
  rintro e w9 ⟨rfl, rfl⟩
  go_wp2_with fail
  refine z1.mono ?_
  rintro e w9 ⟨rfl, rfl⟩
  go_wp2_with fail
  refine n2.mono ?_
  rintro e w9 ⟨rfl, rfl⟩
  go_wp2_with fail
  refine z2.mono ?_
  rintro e w9 ⟨rfl, rfl⟩
  go_wp2_with fail
  refine n3.mono ?_
  rintro e w9 ⟨rfl, rfl⟩
  go_wp2_with fail
  refine z3.mono ?_
  rintro e w9 ⟨rfl, rfl⟩
  go_wp2
  go_ret
  exact ⟨rfl, HB.out⟩
end
end Go.Proofs.YtfhdiddlloiglaaDoor
end
section
/- WalWhole walked: what is there behind any stops is all old or all new. -/
namespace Go.Proofs.YtfhdiddlloiglaaDoor
open Go.RowKit Go.Proofs.YtfhdiddlloiglaaDoorW.PrintWords
attribute [local go_sem ↓] Go.wp_at_zero Go.wp_at_succ
set_option linter.unusedVariables false
set_option linter.unusedSimpArgs false
set_option maxRecDepth 100000

theorem open_taken {d : Dsk} {a c : Int} (hd : d.Ok) : (openD d a c).2.2.taken ≤ d.taken + 103 := by
  unfold openD
  by_cases h : (logged d a c).1 = 0
  · rw [if_neg (by simpa using h)]
    by_cases hn : (logged d a c).2.l = []
    · rw [if_pos hn]; show d.taken ≤ _; omega
    · rw [if_neg hn]
      obtain ⟨⟨_, p2, _⟩, hl, _⟩ := logged_ok hd h
      have h1 := run_taken (homeS a (logged d a c).2.turn (logged d a c).2.l) false d
      have h2 : (homeS a (logged d a c).2.turn (logged d a c).2.l).length = (logged d a c).2.l.length + 3 := by rw [homeS, List.length_append, List.length_map]; rfl
      show (runD _ false d).2.2.taken ≤ _
      omega
  · rw [if_pos h]; show d.taken ≤ _; omega
theorem open_off {k : Cm} {d : Dsk} (hk : k.Ok) (h : k.Rest d.vals) (hoff : d.off = false) (hlf : d.left = -1) : (openD d k.a k.c).2.2.off = false := by
  have hl := h.s.len
  have han : k.a < k.n := by have := hk.fit; omega
  have ht' : 0 ≤ k.t' ∧ k.t' < 4294967296 := by unfold Cm.t' nextTurn; omega
  have key : ∀ t ls, logged d k.a k.c = (0, ⟨t, ls⟩) → (ls ≠ [] → ∀ s ∈ homeS k.a t ls, Fits k.n s) → (openD d k.a k.c).2.2.off = false := fun t ls e hf => by
    unfold openD
    rw [e, if_neg (by simp)]
    by_cases hn : ls = []
    · rw [if_pos hn]; exact hoff
    · rw [if_neg hn]
      exact (run_free _ false d (by rw [hl]; exact hf hn) hoff hlf).2.2.1
  rcases h with h | h | h
  · exact key _ _ (logged_E hk h.len hoff ((h.last han).1 rfl) ⟨hk.t0, hk.t1⟩) (fun hn => absurd rfl hn)
  · exact key _ _ (logged_H hk h.len hoff ((h.last han).1 rfl) (fun i hi => by
        have := hk.len; have := hk.fit
        exact (h.last (i := k.a + 1 + i) (by omega)).2.2 i hi rfl)) (fun _ => fits_home hk)
  · exact key _ _ (logged_E hk h.len hoff ((h.last han).1 rfl) ht') (fun hn => absurd rfl hn)
theorem stepsS_len (a t : Int) (l : List (Int × Sec)) : (stepsS a t l).length = 2 * l.length + 7 := by
  rw [stepsS, List.length_append, dataS_len]
  show _ + (List.length (homeS a t l) + 1 + 1 + 1 + 1) = _
  rw [homeS, List.length_append, List.length_map]
  show _ + (_ + 3 + 1 + 1 + 1 + 1) = _
  omega
theorem commit_taken {g : Lg} {d : Dsk} {l : List (Int × Sec)} : (commitD g d l).2.2.taken ≤ d.taken + (2 * l.length + 7) := by
  unfold commitD
  split
  · show d.taken ≤ _; omega
  · split
    · show d.taken ≤ _; omega
    · split
      · show d.taken ≤ _; omega
      · split
        · show d.taken ≤ _; omega
        · have h1 := run_taken (stepsS g.a (nextTurn g.turn) (sortB l)) false d
          rw [stepsS_len, (sortB_perm l).length_eq] at h1
          exact h1
theorem atsL_wanted {n : Nat} (hn : 9 ≤ n) (l : List Int) (f : Int) : Wanted n (blocksTo (atsL n l) f (atsL n l).length) := by
  obtain ⟨h1, h2, h3⟩ := atsL_ok hn l
  have hh : homesOf (blocksTo (atsL n l) f (atsL n l).length) = atsL n l := by
    refine List.ext_getElem (by simp [homesOf, blocksTo]) fun i a b => ?_
    simp [homesOf, blocksTo, List.getD_eq_getElem?_getD, b]
  refine ⟨by simpa [blocksTo] using h1, fun x hx => ?_, by rw [hh]; exact h3⟩
  have hm : x.1 ∈ atsL n l := by rw [← hh]; exact List.mem_map.2 ⟨x, hx, rfl⟩
  obtain ⟨i, hi, e⟩ := List.mem_map.1 (show x ∈ (List.range (atsL n l).length).map _ from hx)
  have := h2 _ hm
  exact ⟨this.1, this.2, by rw [← e]; exact fullB_len _⟩
def wasOf (want : List (Int × Sec)) : List (Int × Sec) := want.map fun x => (x.1, initS x.1.toNat)
theorem allB_iff {d : Dsk} {ls : List (Int × Sec)} : allB d ls = true ↔ ∀ x ∈ ls, lastOf (d.vals.getD x.1.toNat []) = x.2 := by
  unfold allB
  rw [List.all_eq_true]
  simp
/-- What the last test tells. -/
theorem final_all {n : Nat} {want : List (Int × Sec)} {done : Bool} {d : Dsk} (h : Wanted n want) (hc : Cls n (lawK n want).pA d.vals ∨ Cls n (lawK n want).pC d.vals) (ha : Aft n want done d.vals) : allB d want = true ∨ (allB d want = false ∧ done = false ∧ allB d (wasOf want) = true) := by
  by_cases hw : allB d want = true
  · exact .inl hw
  · refine .inr ⟨by simpa using hw, ?_, ?_⟩
    · cases hd : done with
      | false => rfl
      | true =>
        rcases ha.2 hd with e | e
        · exact absurd (by rw [e]; rfl) hw
        · exact absurd (allB_iff.2 fun x hx => lasts_want h e hx) hw
    · rcases hc with hc | hc
      · refine allB_iff.2 fun x hx => ?_
        obtain ⟨y, hy, rfl⟩ := List.mem_map.1 hx
        exact lasts_was (x := y) h hc hy
      · exact absurd (allB_iff.2 fun x hx => lasts_want h hc hx) hw
theorem wasOf_in {n : Nat} {want : List (Int × Sec)} (h : Wanted n want) : ∀ x ∈ wasOf want, 0 ≤ x.1 ∧ x.1 < n := fun x hx => by
  obtain ⟨y, hy, rfl⟩ := List.mem_map.1 hx
  have := h.2.1 y hy
  show 0 ≤ y.1 ∧ y.1 < n
  omega
theorem wanted_in {n : Nat} {want : List (Int × Sec)} (h : Wanted n want) : ∀ x ∈ want, 0 ≤ x.1 ∧ x.1 < n := fun x hx => by
  have := h.2.1 x hx
  omega
section
variable {w0 w : World} {p lp : Nat} {d : Dsk} {L : List Res}
/-- A block more, of bytes of one's own. -/
theorem St.blockNew {y : Int} {g cc j c' : Nat} {A' : Option Addr} {es : List BE} {ls : List (Int × Sec)} {s : Sec} (h2 : St w0 w (rRow 5 1 (.slice (some ⟨g, 0, none⟩) 256 cc) 256 (bytes s) :: rRow 48 2 (.slice A' j c') j (encB es) :: rDats es ls :: L)) (hs : s.length = 256) (hby : Bytes s) (hj2 : j ≤ 1048576) :
    ∃ A2 c2 W3, AppRunT 35 (.slice A' j c') (.slice (some ⟨w.heap.size, 0, none⟩) 1 1) (w.alloc (.cells #[.int .i64 y, .slice (some ⟨g, 0, none⟩) 256 cc] 48)) (.slice A2 (j + 1) c2) W3 ∧
      St w0 W3 (rRow 48 2 (.slice A2 (j + 1) c2) (j + 1) (encB (es ++ [⟨y, g, 0, cc⟩])) :: rDats (es ++ [⟨y, g, 0, cc⟩]) (ls ++ [(y, s)]) :: L) := by
  have hcc := rRow_cap h2
  have h3 := (h2.rowCells.order [0, 2, 1] (by decide)).datsNew (at_ := y) hcc hs hby
  have h4 := (St.swap h3).alloc (.cells #[.int .i64 y, .slice (some ⟨g, 0, none⟩) 256 cc] 48)
  obtain ⟨v', W3, hrun, h5⟩ := h4.drop.appE eltB ⟨w.heap.size, 0, none⟩ 1 1 [.int .i64 y, .slice (some ⟨g, 0, none⟩) 256 cc] rfl (cells_new w [.int .i64 y, .slice (some ⟨g, 0, none⟩) 256 cc] 48) (fun u hu => by simp at hu; rcases hu with rfl | rfl <;> rfl) (by omega) (by omega)
  obtain ⟨A2, c2, rfl⟩ := own_slice h5.row
  rw [← encB_snoc es ⟨y, g, 0, cc⟩] at h5
  exact ⟨A2, c2, W3, hrun, h5⟩
theorem St.crashNil (H : St w0 w (rDisk p d :: L)) (ht : d.taken ≤ maxTaken) : Calls Tryd.prog 21 #[.pointer (some ⟨p, 0, none⟩), .slice none 0 0] w fun e w' => e = .returned (.int .i64 0) ∧ St w0 w' (rDisk p (d.crash []) :: L) := by
  refine (St.crash (picks := []) (c := 0) (St.swap H.emp) (fun h => rdI_nil _) ht).mono ?_
  rintro e w' ⟨rfl, h⟩
  exact ⟨rfl, (St.swap h).drop⟩
theorem St.crashK (H : St w0 w (rDisk p d :: L)) {A : Option Addr} {picks : List Int} {c m : Nat} (hP : RdI w0 A picks) (hm : picks.length = m) (ht : d.taken ≤ maxTaken) : Calls Tryd.prog 21 #[.pointer (some ⟨p, 0, none⟩), .slice A m c] w fun e w' => e = .returned (.int .i64 0) ∧ St w0 w' (rDisk p (d.crash picks) :: L) := by
  subst hm
  refine (St.crash (c := c) (St.swap (H.oldK hP)) (fun h => h.1.1) ht).mono ?_
  rintro e w' ⟨rfl, h⟩
  exact ⟨rfl, (St.swap h).drop⟩
theorem St.rowK {A : Option Addr} {n c : Nat} {l : List Int} (H : St w0 w (rRow 3 1 (.slice A n c) n (intsV l) :: L)) (hl : l.length = n) : St w0 w (rRdK .i64 A l :: L) := by
  have hr := rRow_RdI H hl
  exact H.rowT fun T hT h1 h2 => ⟨⟨hr, fun ad e hn => h2 ad.block (by rw [e]; rfl)⟩, fun _ h => h⟩
/-- What the law has. -/
def WH (p : Nat) (d : Dsk) (Aw Az : Option Addr) (k kz cw cz : Nat) (ew ez : List BE) (want was : List (Int × Sec)) (L : List Res) : List Res :=
  rDisk p d :: rRow 48 2 (.slice Aw k cw) k (encB ew) :: rDats ew want :: rRow 48 2 (.slice Az kz cz) kz (encB ez) :: rDats ez was :: L
set_option maxHeartbeats 4000000 in
theorem whole_calls (hT : Half w) (sectors : Int) {A1 : Option Addr} {c1 m1 : Nat} {l : List Int} (hl : RdI w A1 l) (hm1 : l.length = m1) {fill : Int} (hfill : 0 ≤ fill ∧ fill ≤ 255) {A2 : Option Addr} {c2 m2 : Nat} {cuts : List S51} (hC : Kd.C k51 w A2 cuts.length cuts) (hm2 : cuts.length = m2) :
    Calls Tryd.prog 4 #[.int .i64 sectors, .slice A1 m1 c1, .int .u8 fill, .slice A2 m2 c2] w fun e w' => e = .returned (.bool true) ∧ Below w.heap.size w w' := by
  have HW := Aside0.mk (works_calls hT)
  have HAM := Aside0.mk (fun W => among_calls W sectors (m := 20) (by omega) (by omega))
  have hs := among_lt sectors (m := 20) (by omega)
  obtain ⟨s, hse⟩ : ∃ s, s = among sectors 20 := ⟨_, rfl⟩
  rw [← hse] at HAM hs
  obtain ⟨n, hn⟩ : ∃ n, n = 9 + s := ⟨_, rfl⟩
  have hn9 : 9 ≤ n ∧ n ≤ 28 := by omega
  have en : (9 : Int) + (s : Int) = (n : Int) := by omega
  have EN := Aside0.mk en
  have hcl : cuts.length ≤ 9223372036854775807 := hC.2.1
  rw [hm2] at hcl
  have HR := Aside0.mk hl
  have HM1 := Aside0.mk hm1
  have HC := Aside0.mk hC
  have HM2 := Aside0.mk hm2
  have HT := Aside0.mk hT
  have H0 := Aside0.mk (St.start w)
  clear hT hl hm1 hC hm2 hse hn en
  go_enter Tryd.func4, Tryd.ntmps4
  go_wp2_with fail
  refine HW.out.mono ?_
  rintro e w1 ⟨rfl, hb⟩
  have H1 := Aside0.mk (H0.out.go hb)
  clear HW hb H0
  go_wp2_with fail
  refine (HAM.out _).mono ?_
  rintro e w2 ⟨rfl, rfl⟩
  clear HAM
  have hbg := Aside0.mk (H1.out.begun HT.out (n := n) ⟨hn9.1, by omega⟩)
  go_upto_region 4 with fail
  rw [EN.out]
  clear EN hs
  go_wp2_with fail
  refine hbg.out.mono ?_
  rintro e w3 ⟨p, lp, rfl, H3⟩
  have hat := Aside0.mk ((H3.oldK HR.out).ats (c := c1) (n := n) HM1.out ⟨hn9.1, by omega⟩)
  clear hbg H1 H3
  go_wp2_with fail
  refine hat.out.mono ?_
  rintro e w4 ⟨Aa, ca, rfl, H4⟩
  obtain ⟨la, hla⟩ : ∃ la, la = atsL n l := ⟨_, rfl⟩
  obtain ⟨k, hk⟩ : ∃ k, k = la.length := ⟨_, rfl⟩
  have hk5 : k ≤ 5 := by rw [hk, hla]; exact (atsL_ok hn9.1 l).1
  have hwd : Wanted n (blocksTo la fill k) := by rw [hk, hla]; exact atsL_wanted hn9.1 l fill
  rw [← hla, ← hk] at H4 ⊢
  have HB := Aside0.mk ((H4.rowK hk.symm).blocks (c := ca) (f := fill) hk.symm (by omega) hfill)
  obtain ⟨want, hwt⟩ : ∃ want, want = blocksTo la fill k := ⟨_, rfl⟩
  have hwl : want.length = k := by rw [hwt]; simp [blocksTo]
  rw [← hwt] at HB hwd
  have HWD := Aside0.mk hwd
  have HWL := Aside0.mk hwl
  clear H4 hat hla hk hwt hwd hwl HR HM1
  go_wp2_with fail
  refine HB.out.mono ?_
  rintro e w5 ⟨Aw, cw, ew, rfl, H5⟩
  have h6 := (((H5.newRow 48 2).datsNil).order [4, 5, 7, 2, 3, 1, 0, 6] (by decide)).drop.drop
  have H6 : Aside0 (St w (w5.alloc (.cells #[] 48)) (WH p (begunD n) Aw (some ⟨w5.heap.size, 0, none⟩) k 0 cw 0 ew [] want (wasOf (want.take 0)) [rBlk lp (walObj p ⟨2, 5, 0, false⟩)])) := ⟨h6⟩
  clear HB H5 h6
  go_wp2_with fail
  go_loopw [12, 13] (fun v12 v13 W => ∃ (j : Nat) (Az : Option Addr) (cz : Nat) (ez : List BE), v13 = .int .i64 (j : Int) ∧ v12 = .slice Az j cz ∧ j ≤ k ∧
    Aside0 (St w W (WH p (begunD n) Aw Az k j cw cz ew ez want (wasOf (want.take j)) [rBlk lp (walObj p ⟨2, 5, 0, false⟩)]))) (fun _ v13 _ => k - (RowKit.intOf v13).toNat)
  case atStart => exact ⟨0, _, _, [], rfl, rfl, Nat.zero_le _, H6⟩
  case round =>
    clear H6
    obtain ⟨j, Az, cz, ez, rfl, rfl, hj, HJ⟩ := hrel
    by_cases hjk : j < k
    · have t1 : decide ((j : Int) < (k : Int)) = true := decide_eq_true (by omega)
      have t1' : (j : Int) < (k : Int) := by omega
      have q0 : (0 : Int) ≤ (j : Int) := by omega
      obtain ⟨lb, cA, eA, _⟩ := ownsRow_formC HJ.out.drop.row (by omega)
      injection eA with eA _ eC
      subst eA
      subst eC
      have hel : ew.length = k := by have := HJ.out.drop.row.1; rw [encB_len] at this; omega
      have hje : j < ew.length := by omega
      have hjl : j < want.length := by rw [HWL.out]; exact hjk
      obtain ⟨e, he⟩ : ∃ e, e = ew[j] := ⟨_, rfl⟩
      obtain ⟨x, hx⟩ : ∃ x, x = want[j] := ⟨_, rfl⟩
      have hg := encB_get ew hje
      rw [← he] at hg
      have l0 := rRow_dat HJ.out.drop _ _ hg.1
      rw [addr_add, Nat.zero_add] at l0
      obtain ⟨⟨ha, _, _, _⟩, _⟩ := HJ.out.drop.drop.dat (i := j) (e := e) (x := x) (by rw [he, List.getElem?_eq_getElem hje]) (by rw [hx, List.getElem?_eq_getElem hjl])
      have hxm : x ∈ want := by rw [hx]; exact List.getElem_mem hjl
      have hxb := HWD.out.2.1 x hxm
      have hrd := HJ.out.readIn (i := e.at_) (by rw [ha, begun_len]; omega) rfl
      rw [ha, begun_get (n := n) (j := x.1.toNat) (by omega), show lastOf [initS x.1.toNat] = initS x.1.toNat from rfl, ← ha] at hrd
      have hsok : SecOk (initS x.1.toNat) := by
        have := HJ.out.diskOk.sec_at (i := x.1.toNat) (by rw [begun_len]; omega)
        rwa [begun_get (n := n) (j := x.1.toNat) (by omega)] at this
      rw [← ha] at hsok
      have HRD := Aside0.mk hrd
      have HSK := Aside0.mk hsok
      have htk : wasOf (want.take (j + 1)) = wasOf (want.take j) ++ [(e.at_, initS e.at_.toNat)] := by
        rw [List.take_succ_eq_append_getElem hjl, wasOf, wasOf, List.map_append, ← hx, ha]; rfl
      have HTKK := Aside0.mk htk
      have HG0 := Aside0.mk hg.1
      clear hg he hx ha hxm hxb hrd hsok htk hel HJ
      go_wp2_with fail
      refine HRD.out.mono ?_
      rintro e' w6 ⟨g, cg, rfl, H7⟩
      have l0 := rRow_dat H7.drop.drop _ _ HG0.out
      rw [addr_add, Nat.zero_add] at l0
      have h8 := H7.order [0, 4, 5, 1, 2, 3] (by decide)
      obtain ⟨A3, c3, W3, hrun, h9⟩ := h8.blockNew (y := e.at_) HSK.out.1 HSK.out.2 (by omega)
      have H9 := Aside0.mk (h9.order [2, 3, 4, 0, 1] (by decide))
      clear HRD H7 h8 h9
      go_wp2_with (at_builtin; refine wpl_appT rfl (.tmp 56) (.tmp 64) rfl rfl hrun rfl rfl ?_)
      clear hrun l0
      go_roundw
      case rel => exact ⟨j + 1, A3, c3, _, by go_num, rfl, hjk, ⟨by rw [HTKK.out]; exact H9.out⟩⟩
      case measure => simp only [RowKit.intOf]; omega
    · have hje : j = k := by omega
      subst hje
      have t1 : decide ((j : Int) < (j : Int)) = false := decide_eq_false (by omega)
      have etk : want.take j = want := List.take_of_length_le (by rw [HWL.out]; omega)
      rw [etk] at HJ
      go_upto_if 68 with fail
      go_cut [] (fun W => ∃ d1 : Dsk, Aside0 (d1.vals = (begunD n).vals ∧ d1.off = false ∧ d1.taken ≤ 100) ∧ Aside0 (St w W (WH p d1 Aw Az j j cw cz ew ez want (wasOf want) [rBlk lp (walObj p ⟨2, 5, 0, false⟩)])))
      case first =>
        by_cases hm0 : 0 < m2
        · have q1 : decide ((0 : Int) < (m2 : Int)) = true := decide_eq_true (by omega)
          have q1' : (0 : Int) < (m2 : Int) := by omega
          have hc0 : 0 < cuts.length := by rw [HM2.out]; exact hm0
          obtain ⟨ad, A4, c4, rfl, k0, k1, _⟩ := cut_at (Kd.C_below HC.out HJ.out.below) hc0
          rw [Nat.zero_mul, Go.Addr.add_zero'] at k0
          clear k1
          have ham := Aside0.mk (among_calls wr (cuts[0]).f0 (m := 24) (by omega) (by omega))
          have hli := Aside0.mk (HJ.out.limit ((among (cuts[0]).f0 24 : Nat) : Int) (by have := among_lt (cuts[0]).f0 (m := 24) (by omega); omega))
          generalize (cuts[0]).f0 = f0 at *
          go_wp2_with fail
          refine ham.out.mono ?_
          rintro e w6 ⟨rfl, rfl⟩
          clear ham k0
          go_wp2_with fail
          refine hli.out.mono ?_
          rintro e w7 ⟨rfl, H8⟩
          have H8 := Aside0.mk H8
          clear hli
          go_wp2_with fail
          go_meet
          exact ⟨(begunD n).limit ((among f0 24 : Nat) : Int), ⟨rfl, rfl, by show 2 + (n - 8) + 1 ≤ 100; omega⟩, ⟨H8.out⟩⟩
        · have q1 : decide ((0 : Int) < (m2 : Int)) = false := decide_eq_false (by omega)
          go_wp2_with fail
          go_meet
          exact ⟨begunD n, ⟨rfl, rfl, by show 2 + (n - 8) + 1 ≤ 100; omega⟩, HJ⟩
      case rest =>
        obtain ⟨d1, HD1, H1⟩ := hcut
        clear HJ
        have hcm := (H1.out.order [5, 0, 1, 2, 3, 4] (by decide)).commitL HT.out (by decide) (by decide) ⟨by decide, by decide⟩ ⟨by decide, by decide⟩ (by omega) (by have := HD1.out.2.2; unfold maxTaken; omega)
        have haft := commit_aft (d := d1) HWD.out ⟨hn9.1, by omega⟩ HD1.out.1 HD1.out.2.1
        have htk : (commitD ⟨2, 5, 0, false⟩ d1 want).2.2.taken ≤ 200 := by
          have h1 := commit_taken (g := ⟨2, 5, 0, false⟩) (d := d1) (l := want)
          have h2 := HD1.out.2.2
          rw [HWL.out] at h1
          omega
        generalize commitD ⟨2, 5, 0, false⟩ d1 want = rc at hcm haft htk
        obtain ⟨code, g2, d2⟩ := rc
        have haft : Aft n want (decide (code = 0)) d2.vals := haft
        have htk : d2.taken ≤ 200 := htk
        have HCM := Aside0.mk hcm
        have HAF := Aside0.mk haft
        clear hcm H1 HD1 haft
        go_wp2_with fail
        refine HCM.out.mono ?_
        rintro e w6 ⟨rfl, H2⟩
        have H2 := Aside0.mk (H2.order [1, 2, 3, 4, 5, 0] (by decide))
        clear HCM
        obtain ⟨done, hdone⟩ : ∃ done, done = decide (code = 0) := ⟨_, rfl⟩
        have q2 : (code == 0) = done := by rw [hdone]; by_cases e : code = 0 <;> simp [e]
        rw [← hdone] at HAF
        clear hdone
        go_wp2_with fail
        go_loopw [17] (fun v17 W => ∃ (i : Nat) (dd : Dsk), v17 = .int .i64 (i : Int) ∧ i ≤ m2 ∧ i ≤ 8 ∧ Aside0 (Aft n want done dd.vals) ∧ Aside0 (dd.taken ≤ 200 + 103 * i) ∧ Aside0 (St w W (WH p dd Aw Az j j cw cz ew ez want (wasOf want) [rBlk lp (walObj p g2)]))) (fun v17 _ => m2 - (RowKit.intOf v17).toNat)
        case atStart => exact ⟨0, d2, rfl, Nat.zero_le _, by omega, HAF, ⟨by omega⟩, H2⟩
        case round =>
          clear H2 HAF htk
          obtain ⟨i, dd, rfl, hi, hi8, HA, HTK, HS⟩ := hrel
          have hk := lawK_ok HWD.out ⟨hn9.1, by omega⟩
          have HKO := Aside0.mk hk
          clear hk
          by_cases hgo : i < m2 ∧ i < 8
          · obtain ⟨him, hi7⟩ := hgo
            have t1 : decide ((i : Int) < (m2 : Int)) = true := decide_eq_true (by omega)
            have t2 : decide ((i : Int) < 8) = true := decide_eq_true (by omega)
            have t1' : (i : Int) < (m2 : Int) := by omega
            have t1'' : (0 : Int) ≤ (i : Int) := by omega
            have hic : i < cuts.length := by rw [HM2.out]; exact him
            obtain ⟨ad, A4, c4, rfl, k0, k1, hP⟩ := cut_at HC.out hic
            have k1 := (HS.out.below.cell (World.block_lt_of_cell? w _ k1)).trans k1
            generalize (cuts[i]).f1 = picks at *
            have hcr := HS.out.crashK (c := c4) hP rfl (by have := HTK.out; unfold maxTaken; omega)
            obtain ⟨hrest, haft⟩ := HA.out.crash (picks := picks) HKO.out
            have hct : (dd.crash picks).taken = dd.taken := rfl
            have hco : (dd.crash picks).off = false := rfl
            generalize dd.crash picks = dc at *
            have HCR := Aside0.mk hcr
            have HRE := Aside0.mk hrest
            have HAF := Aside0.mk haft
            have HTC := Aside0.mk hct
            have HOC := Aside0.mk hco
            obtain ⟨pl, hpl⟩ : ∃ pl, pl = picks.length := ⟨_, rfl⟩
            rw [← hpl] at k1 HCR
            clear hcr hrest haft hct hco k0 hP HA HS hpl
            go_wp2_with fail
            refine HCR.out.mono ?_
            rintro e w7 ⟨rfl, H7⟩
            have H7 := Aside0.mk H7
            clear HCR k1
            obtain ⟨bl, hbl⟩ : ∃ bl, bl = decide (i + 1 < m2 ∧ i < 7) := ⟨_, rfl⟩
            have HBL := Aside0.mk hbl
            clear hbl
            go_upto_region 21 with fail
            go_cut [105] (fun v105 W => v105 = .bool bl ∧ W = w7)
            case first =>
              by_cases hl1 : i + 1 < m2
              · have q1 : decide ((i : Int) + 1 < (m2 : Int)) = true := decide_eq_true (by omega)
                have q1' : (i : Int) + 1 < (m2 : Int) := by omega
                by_cases hl2 : i < 7
                · have q2 : decide ((i : Int) < 7) = true := decide_eq_true (by omega)
                  go_wp2_with fail
                  go_meet
                  exact ⟨by rw [HBL.out, decide_eq_true ⟨hl1, hl2⟩], rfl⟩
                · have q2 : decide ((i : Int) < 7) = false := decide_eq_false (by omega)
                  go_wp2_with fail
                  go_meet
                  exact ⟨by rw [HBL.out, decide_eq_false (fun h => hl2 h.2)], rfl⟩
              · have q1 : decide ((i : Int) + 1 < (m2 : Int)) = false := decide_eq_false (by omega)
                go_wp2_with fail
                go_meet
                exact ⟨by rw [HBL.out, decide_eq_false (fun h => hl1 h.1)], rfl⟩
            case rest =>
            obtain ⟨rfl, rfl⟩ := hcut
            go_upto_if 105 with fail
            go_cut [] (fun W => ∃ d3 : Dsk, Aside0 (d3.vals = dc.vals ∧ d3.off = false ∧ d3.taken = dd.taken) ∧ Aside0 (St w W (WH p d3 Aw Az j j cw cz ew ez want (wasOf want) [rBlk lp (walObj p g2)])))
            case first =>
              cases bl with
              | true =>
                have hl := of_decide_eq_true HBL.out.symm
                have hic1 : i + 1 < cuts.length := by rw [HM2.out]; exact hl.1
                obtain ⟨ad', A5, c5, hae, k0, kx, hx⟩ := cut_at HC.out hic1
                cases hae
                have k0 := (H7.out.below.cell (World.block_lt_of_cell? w _ k0)).trans k0
                have ham := Aside0.mk (among_calls wc (cuts[i + 1]).f0 (m := 16) (by omega) (by omega))
                have hli := Aside0.mk (H7.out.limit ((among (cuts[i + 1]).f0 16 : Nat) : Int) (by have := among_lt (cuts[i + 1]).f0 (m := 16) (by omega); omega))
                generalize (cuts[i + 1]).f0 = f0 at *
                have q1' : (i : Int) + 1 < (m2 : Int) := by omega
                have q1'' : (0 : Int) ≤ (i : Int) + 1 := by omega
                clear kx hx hl hic1
                go_wp2_with fail
                refine ham.out.mono ?_
                rintro e w8 ⟨rfl, rfl⟩
                clear ham k0
                go_wp2_with fail
                refine hli.out.mono ?_
                rintro e w9 ⟨rfl, H9⟩
                have H9 := Aside0.mk H9
                clear hli
                go_wp2_with fail
                go_meet
                exact ⟨dc.limit ((among f0 16 : Nat) : Int), ⟨rfl, HOC.out, HTC.out⟩, ⟨H9.out⟩⟩
              | false =>
                go_wp2_with fail
                go_meet
                exact ⟨dc, ⟨rfl, HOC.out, HTC.out⟩, H7⟩
            case rest =>
              obtain ⟨d3, HD3, H8⟩ := hcut
              clear H7
              have hok := H8.out.diskOk
              have hot := open_taken (a := 2) (c := 5) hok
              have hop := H8.out.openL HT.out 2 5 (by omega) (by have := HTK.out; have := HD3.out.2.2; unfold maxTaken; omega) (r := openD d3 2 5) rfl
              have hre : (lawK n want).Rest d3.vals := by rw [HD3.out.1]; exact HRE.out
              have haf : Aft n want done d3.vals := by rw [HD3.out.1]; exact HAF.out
              have hao := haf.openL hre HKO.out HD3.out.2.1
              have hd3 := HD3.out.2.2
              generalize openD d3 2 5 = ro at hot hop hao
              obtain ⟨code, tt, d4⟩ := ro
              have HOP := Aside0.mk hop
              have hot : d4.taken ≤ d3.taken + 103 := hot
              have HOT := Aside0.mk hot
              have HD3T := Aside0.mk hd3
              rcases hao with ⟨z1, z2, z3⟩ | ⟨z1, z2⟩
              · have z1 : code = 0 := z1
                subst z1
                have HCL4 : Aside0 (Cls n (lawK n want).pA d4.vals ∨ Cls n (lawK n want).pC d4.vals) := ⟨z2⟩
                have HAF4 : Aside0 (Aft n want done d4.vals) := ⟨z3⟩
                clear hop hok hot hre haf z2 z3 H8 HRE HAF hd3
                go_wp2_with fail
                refine HOP.out.mono ?_
                rintro e w8 (⟨_, lp2, rfl, H9⟩ | ⟨hne, _⟩)
                · have H9 := H9.drop
                  have ht9 : d4.taken ≤ maxTaken := by have := HTK.out; have := HOT.out; have := HD3T.out; unfold maxTaken; omega
                  have hcn := Aside0.mk (H9.crashNil ht9)
                  clear HOP H9 ht9
                  go_wp2_with fail
                  refine hcn.out.mono ?_
                  rintro e w9 ⟨rfl, H10⟩
                  obtain ⟨dz, hdz⟩ : ∃ dz, dz = d4.crash [] := ⟨_, rfl⟩
                  have HCL : Aside0 (Cls n (lawK n want).pA dz.vals ∨ Cls n (lawK n want).pC dz.vals) := ⟨by rw [hdz]; exact HCL4.out.imp (fun h => (h.crash []).1) (fun h => (h.crash []).1)⟩
                  have HAF3 : Aside0 (Aft n want done dz.vals) := ⟨by rw [hdz]; exact (HAF4.out.crash (picks := []) HKO.out).2⟩
                  have HCLL : Aside0 (dz.vals.length = n) := ⟨HCL.out.elim (fun h => h.len) (fun h => h.len)⟩
                  have HOFZ : Aside0 (dz.off = false) := ⟨by rw [hdz]; rfl⟩
                  have htz : dz.taken = d4.taken := by rw [hdz]; rfl
                  rw [← hdz] at H10
                  obtain ⟨t2, ho2, _, _⟩ := open_again (t := 0) HKO.out HCL.out HOFZ.out
                  have hop2 := H10.openL HT.out 2 5 (by omega) (by have := HTK.out; have := HOT.out; have := HD3T.out; rw [htz]; unfold maxTaken; omega) (r := (0, t2, dz)) ho2
                  have HOP2 := Aside0.mk hop2
                  clear hop2 ho2 htz H10 hcn hdz HCL4 HAF4
                  go_wp2_with fail
                  refine HOP2.out.mono ?_
                  rintro e w10 (⟨_, lp3, rfl, H11⟩ | ⟨hne, _⟩)
                  · have HZ := Aside0.mk H11.drop
                    clear HOP2 H11
                    go_wp2_with fail
                    have hfa := final_all HWD.out HCL.out HAF3.out
                    have hlen := HCLL.out
                    have HI1 := Aside0.mk (fun x hx => by rw [hlen]; exact wanted_in HWD.out x hx : ∀ x ∈ want, 0 ≤ x.1 ∧ x.1 < dz.vals.length)
                    have HI2 := Aside0.mk (fun x hx => by rw [hlen]; exact wasOf_in HWD.out x hx : ∀ x ∈ wasOf want, 0 ≤ x.1 ∧ x.1 < dz.vals.length)
                    have hal := HZ.out.all (by omega) HOFZ.out HI1.out
                    rcases hfa with e1 | ⟨e1, e2, e3⟩
                    · rw [e1] at hal
                      have HAL := Aside0.mk hal
                      clear hal e1 HZ
                      go_wp2_with fail
                      refine HAL.out.mono ?_
                      rintro e wz1 ⟨rfl, HZ1⟩
                      have HB := Aside0.mk HZ1.below
                      clear HZ1 HAL
                      go_wp2
                      go_ret
                      exact ⟨rfl, HB.out⟩
                    · rw [e1] at hal
                      have HAL := Aside0.mk hal
                      have HE3 := Aside0.mk e3
                      subst e2
                      clear hal e1 e3 HZ
                      go_wp2_with fail
                      refine HAL.out.mono ?_
                      rintro e wz1 ⟨rfl, HZ1⟩
                      have hal2 := (HZ1.order [0, 3, 4, 1, 2] (by decide)).all (by omega) HOFZ.out HI2.out
                      rw [HE3.out] at hal2
                      have HAL2 := Aside0.mk hal2
                      clear HZ1 HAL hal2
                      go_wp2_with fail
                      refine HAL2.out.mono ?_
                      rintro e wz2 ⟨rfl, HZ2⟩
                      have HB := Aside0.mk HZ2.below
                      clear HZ2 HAL2
                      go_wp2
                      go_ret
                      exact ⟨rfl, HB.out⟩
                  · exact absurd rfl hne
                · exact absurd rfl hne
              · have z1 : code = 10 := z1
                subst z1
                have HAF4 : Aside0 (Aft n want done d4.vals) := ⟨z2⟩
                clear hop hok hot hre haf z2 H8 HRE HAF hd3
                go_wp2_with fail
                refine HOP.out.mono ?_
                rintro e w8 (⟨hne, _⟩ | ⟨_, rfl, H9⟩)
                · exact absurd hne (by show ¬ (10 : Int) = 0; decide)
                · have H9 := Aside0.mk H9
                  clear HOP
                  go_wp2
                  go_roundw
                  case rel => exact ⟨i + 1, d4, by go_num, him, by omega, HAF4, ⟨by have := HTK.out; have := HOT.out; have := HD3T.out; omega⟩, ⟨H9.out⟩⟩
                  case measure => simp only [RowKit.intOf]; omega
          · have hcn := Aside0.mk (HS.out.crashNil (by have := HTK.out; unfold maxTaken; omega))
            have HGO := Aside0.mk hgo
            have hsplit : i = m2 ∨ (decide ((i : Int) < (m2 : Int)) = true ∧ i < m2 ∧ i = 8) := by
              by_cases h : i < m2
              · exact .inr ⟨decide_eq_true (by omega), h, by omega⟩
              · exact .inl (by omega)
            clear hgo HS
            obtain ⟨hrest, haft⟩ := HA.out.crash (picks := []) HKO.out
            have hct : (dd.crash []).taken = dd.taken := rfl
            have hco : (dd.crash []).off = false := rfl
            have hcl' : (dd.crash []).left = -1 := rfl
            generalize dd.crash [] = dc at *
            have hz0 := open_free HKO.out hrest hco hcl'
            have hao := haft.openL hrest HKO.out hco
            have HRT := Aside0.mk hct
            have hz0 : (openD dc 2 5).1 = 0 := hz0
            have HTC2 : Aside0 (dc.taken + 103 < maxTaken) := ⟨by rw [hct]; have := HTK.out; unfold maxTaken; omega⟩
            generalize hro : openD dc 2 5 = ro at hz0 hao
            obtain ⟨code, tt, dz⟩ := ro
            have hz0 : code = 0 := hz0
            subst hz0
            have HRO := Aside0.mk hro
            have hcls : Cls n (lawK n want).pA dz.vals ∨ Cls n (lawK n want).pC dz.vals := by
              rcases hao with ⟨_, h, _⟩ | ⟨h, _⟩
              · exact h
              · exact absurd (show (0 : Int) = 10 from h) (by decide)
            have HCL := Aside0.mk hcls
            have HAF3 : Aside0 (Aft n want done dz.vals) := ⟨by
              rcases hao with ⟨_, _, h⟩ | ⟨h, _⟩
              · exact h
              · exact absurd (show (0 : Int) = 10 from h) (by decide)⟩
            have HCLL : Aside0 (dz.vals.length = n) := ⟨HCL.out.elim (fun h => h.len) (fun h => h.len)⟩
            have HOFZ : Aside0 (dz.off = false) := ⟨by
              have := open_off HKO.out hrest hco hcl'
              rw [show openD dc (lawK n want).a (lawK n want).c = openD dc 2 5 from rfl, hro] at this
              exact this⟩
            clear hrest haft hct hco hcl' hao hro hcls
            rcases hsplit with rfl | ⟨t1, t1', rfl⟩
            all_goals (
              go_wp2_with fail
              refine hcn.out.mono ?_
              rintro e w7 ⟨rfl, H7⟩
              have hop := Aside0.mk (H7.openL HT.out 2 5 (by omega) HTC2.out HRO.out)
              clear hcn H7
              go_wp2_with fail
              refine hop.out.mono ?_
              rintro e w8 (⟨_, lp2, rfl, H8⟩ | ⟨hne, _⟩)
              · have HZ := Aside0.mk H8.drop
                clear hop H8
                go_wp2_with fail
                have hfa := final_all HWD.out HCL.out HAF3.out
                have hlen := HCLL.out
                have HI1 := Aside0.mk (fun x hx => by rw [hlen]; exact wanted_in HWD.out x hx : ∀ x ∈ want, 0 ≤ x.1 ∧ x.1 < dz.vals.length)
                have HI2 := Aside0.mk (fun x hx => by rw [hlen]; exact wasOf_in HWD.out x hx : ∀ x ∈ wasOf want, 0 ≤ x.1 ∧ x.1 < dz.vals.length)
                have hal := HZ.out.all (by omega) HOFZ.out HI1.out
                rcases hfa with e1 | ⟨e1, e2, e3⟩
                · rw [e1] at hal
                  have HAL := Aside0.mk hal
                  clear hal e1 HZ
                  go_wp2_with fail
                  refine HAL.out.mono ?_
                  rintro e wz1 ⟨rfl, HZ1⟩
                  have HB := Aside0.mk HZ1.below
                  clear HZ1 HAL
                  go_wp2
                  go_ret
                  exact ⟨rfl, HB.out⟩
                · rw [e1] at hal
                  have HAL := Aside0.mk hal
                  have HE3 := Aside0.mk e3
                  subst e2
                  clear hal e1 e3 HZ
                  go_wp2_with fail
                  refine HAL.out.mono ?_
                  rintro e wz1 ⟨rfl, HZ1⟩
                  have hal2 := (HZ1.order [0, 3, 4, 1, 2] (by decide)).all (by omega) HOFZ.out HI2.out
                  rw [HE3.out] at hal2
                  have HAL2 := Aside0.mk hal2
                  clear HZ1 HAL hal2
                  go_wp2_with fail
                  refine HAL2.out.mono ?_
                  rintro e wz2 ⟨rfl, HZ2⟩
                  have HB := Aside0.mk HZ2.below
                  clear HZ2 HAL2
                  go_wp2
                  go_ret
                  exact ⟨rfl, HB.out⟩
              · exact absurd rfl hne)
end
end Go.Proofs.YtfhdiddlloiglaaDoor
end
section
/- WalAgain walked: a log that is opened twice is as one opened once. -/
namespace Go.Proofs.YtfhdiddlloiglaaDoor
open Go.RowKit Go.Proofs.YtfhdiddlloiglaaDoorW.PrintWords
attribute [local go_sem ↓] Go.wp_at_zero Go.wp_at_succ
set_option linter.unusedVariables false
set_option linter.unusedSimpArgs false
set_option maxRecDepth 100000

section
variable {w0 w : World} {p lp : Nat} {d : Dsk} {L : List Res}
theorem St.imageAt (H : St w0 w (rDisk p d :: L)) (ht : d.taken ≤ maxTaken) {n : Nat} (hn : d.image.length = n) : Calls Tryd.prog 24 #[.pointer (some ⟨p, 0, none⟩)] w fun e w' => ∃ A c, e = .returned (.slice A n c) ∧ St w0 w' (rRow 5 1 (.slice A n c) n (bytes d.image) :: rDisk p d :: L) := by
  subst hn
  refine (H.image ht).mono ?_
  rintro e w' ⟨v, rfl, h⟩
  obtain ⟨A, c, rfl⟩ := own_slice h.row
  exact ⟨A, c, rfl, h⟩
set_option maxHeartbeats 4000000 in
theorem again_calls (hT : Half w) (sectors : Int) {A1 : Option Addr} {c1 m1 : Nat} {l : List Int} (hl : RdI w A1 l) (hm1 : l.length = m1) {fill : Int} (hfill : 0 ≤ fill ∧ fill ≤ 255) (N : Int) {A2 : Option Addr} {c2 m2 : Nat} {picks : List Int} (hP : RdI w A2 picks) (hm2 : picks.length = m2) :
    Calls Tryd.prog 6 #[.int .i64 sectors, .slice A1 m1 c1, .int .u8 fill, .agg #[.int .i64 N, .slice A2 m2 c2]] w fun e w' => e = .returned (.bool true) ∧ Below w.heap.size w w' := by
  have h0 := (St.start w).alloc (.cells #[.int .i64 N, .slice A2 m2 c2] 51)
  obtain ⟨kb, hkb⟩ : ∃ kb, kb = w.heap.size := ⟨_, rfl⟩
  have HT := Aside0.mk (hT.below h0.below)
  have HTW := Aside0.mk hT
  have HAM := Aside0.mk (fun W => among_calls W sectors (m := 20) (by omega) (by omega))
  have hs := among_lt sectors (m := 20) (by omega)
  obtain ⟨s, hse⟩ : ∃ s, s = among sectors 20 := ⟨_, rfl⟩
  rw [← hse] at HAM hs
  obtain ⟨n, hn⟩ : ∃ n, n = 9 + s := ⟨_, rfl⟩
  have hn9 : 9 ≤ n ∧ n ≤ 28 := by omega
  have en : (9 : Int) + (s : Int) = (n : Int) := by omega
  have EN := Aside0.mk en
  have HR := Aside0.mk hl
  have HM1 := Aside0.mk hm1
  have HP := Aside0.mk hP
  have HM2 := Aside0.mk hm2
  have HB0 := Aside0.mk h0.below
  rw [← hkb] at h0
  have H0 := Aside0.mk h0
  have HW := Aside0.mk (works_calls HT.out)
  clear hT hl hm1 hP hm2 hse hn en h0
  go_enter Tryd.func6, Tryd.ntmps6
  go_upto_region 1 with fail
  rw [← hkb]
  clear hkb
  generalize w.alloc (.cells #[.int .i64 N, .slice A2 m2 c2] 51) = wA at *
  go_wp2_with fail
  refine HW.out.mono ?_
  rintro e w1 ⟨rfl, hb⟩
  have H1 := Aside0.mk (H0.out.go hb)
  clear HW hb H0
  go_wp2_with fail
  refine (HAM.out _).mono ?_
  rintro e w2 ⟨rfl, rfl⟩
  clear HAM
  have hbg := Aside0.mk (H1.out.begun HTW.out (n := n) ⟨hn9.1, by omega⟩)
  go_upto_region 4 with fail
  rw [EN.out]
  clear EN hs H1
  go_wp2_with fail
  refine hbg.out.mono ?_
  rintro e w3 ⟨p, lp, rfl, H3⟩
  have H3 := Aside0.mk (H3.order [2, 1, 0] (by decide))
  have k0 : w3.cell? ⟨kb, 0, none⟩ = some (.int .i64 N) := cell_of_blk H3.out.blk 0
  have ham := Aside0.mk (among_calls w3 N (m := 24) (by omega) (by omega))
  have hli := Aside0.mk ((St.swap H3.out).limit ((among N 24 : Nat) : Int) (by have := among_lt N (m := 24) (by omega); omega))
  clear hbg H3
  go_wp2_with fail
  refine ham.out.mono ?_
  rintro e w4 ⟨rfl, rfl⟩
  clear ham k0
  go_wp2_with fail
  refine hli.out.mono ?_
  rintro e w5 ⟨rfl, H5⟩
  obtain ⟨d1, hd1⟩ : ∃ d1, d1 = (begunD n).limit ((among N 24 : Nat) : Int) := ⟨_, rfl⟩
  have HD1 : Aside0 (d1.vals = (begunD n).vals ∧ d1.off = false ∧ d1.taken ≤ 100) := ⟨by rw [hd1]; exact ⟨rfl, rfl, by show 2 + (n - 8) + 1 ≤ 100; omega⟩⟩
  rw [← hd1] at H5
  have hat := Aside0.mk ((H5.oldK HR.out).ats (c := c1) (n := n) HM1.out ⟨hn9.1, by omega⟩)
  clear hli H5 hd1
  go_wp2_with fail
  refine hat.out.mono ?_
  rintro e w6 ⟨Aa, ca, rfl, H6⟩
  obtain ⟨la, hla⟩ : ∃ la, la = atsL n l := ⟨_, rfl⟩
  obtain ⟨k, hk⟩ : ∃ k, k = la.length := ⟨_, rfl⟩
  have hk5 : k ≤ 5 := by rw [hk, hla]; exact (atsL_ok hn9.1 l).1
  have hwd : Wanted n (blocksTo la fill k) := by rw [hk, hla]; exact atsL_wanted hn9.1 l fill
  rw [← hla, ← hk] at H6 ⊢
  have HB := Aside0.mk ((H6.rowK hk.symm).blocks (c := ca) (f := fill) hk.symm (by omega) hfill)
  obtain ⟨want, hwt⟩ : ∃ want, want = blocksTo la fill k := ⟨_, rfl⟩
  have hwl : want.length = k := by rw [hwt]; simp [blocksTo]
  rw [← hwt] at HB hwd
  have HWD := Aside0.mk hwd
  have HWL := Aside0.mk hwl
  clear H6 hat hla hk hwt hwd hwl HR HM1
  go_wp2_with fail
  refine HB.out.mono ?_
  rintro e w7 ⟨Aw, cw, ew, rfl, H7⟩
  have hcm := (H7.order [6, 4, 0, 1, 2, 3, 5] (by decide)).commitL HTW.out (by decide) (by decide) ⟨by decide, by decide⟩ ⟨by decide, by decide⟩ (by omega) (by have := HD1.out.2.2; unfold maxTaken; omega)
  have haft := commit_aft (d := d1) HWD.out ⟨hn9.1, by omega⟩ HD1.out.1 HD1.out.2.1
  have htk : (commitD ⟨2, 5, 0, false⟩ d1 want).2.2.taken ≤ 200 := by
    have h1 := commit_taken (g := ⟨2, 5, 0, false⟩) (d := d1) (l := want)
    have h2 := HD1.out.2.2
    rw [HWL.out] at h1
    omega
  generalize commitD ⟨2, 5, 0, false⟩ d1 want = rc at hcm haft htk
  obtain ⟨code, g2, d2⟩ := rc
  have haft : Aft n want (decide (code = 0)) d2.vals := haft
  have htk : d2.taken ≤ 200 := htk
  have HCM := Aside0.mk hcm
  have HAF := Aside0.mk haft
  clear hcm HD1 haft HB H7
  go_wp2_with fail
  refine HCM.out.mono ?_
  rintro e w8 ⟨rfl, H8⟩
  have h8 := (H8.order [6, 1, 0, 2, 3, 4, 5] (by decide))
  have k1 : w8.cell? ⟨kb, 1, none⟩ = some (.slice A2 m2 c2) := cell_of_blk h8.blk 1
  have hcr := Aside0.mk (h8.drop.crashK (c := c2) HP.out HM2.out (by unfold maxTaken; omega))
  obtain ⟨hrest, haf2⟩ := HAF.out.crash (picks := picks) (lawK_ok HWD.out ⟨hn9.1, by omega⟩)
  have hct : (d2.crash picks).taken = d2.taken := rfl
  have hco : (d2.crash picks).off = false := rfl
  have hcl' : (d2.crash picks).left = -1 := rfl
  generalize d2.crash picks = dc at *
  have HKO := Aside0.mk (lawK_ok HWD.out ⟨hn9.1, by omega⟩)
  have hz0 : (openD dc 2 5).1 = 0 := open_free HKO.out hrest hco hcl'
  have hoff : (openD dc 2 5).2.2.off = false := open_off HKO.out hrest hco hcl'
  have htn : getAt (lastOf ((openD dc 2 5).2.2.vals.getD 2 [])) 4 4 = (openD dc 2 5).2.1 := open_turn HKO.out hrest hco hz0
  have hao := haf2.openL hrest HKO.out hco
  have HTC : Aside0 (dc.taken + 103 < maxTaken ∧ dc.taken ≤ 200) := ⟨by rw [hct]; unfold maxTaken; omega⟩
  clear hrest haf2 hct hco hcl' HCM H8 h8 HAF htk
  go_wp2_with fail
  refine hcr.out.mono ?_
  rintro e w9 ⟨rfl, H9⟩
  have hop := H9.openL HTW.out 2 5 (by omega) HTC.out.1 (r := openD dc 2 5) rfl
  have hot := open_taken (a := 2) (c := 5) H9.diskOk
  generalize openD dc 2 5 = ro at hz0 hoff htn hao hop hot
  obtain ⟨code2, tt, dz⟩ := ro
  have hz0 : code2 = 0 := hz0
  subst hz0
  have hcls : Cls n (lawK n want).pA dz.vals ∨ Cls n (lawK n want).pC dz.vals := by
    rcases hao with ⟨_, h, _⟩ | ⟨h, _⟩
    · exact h
    · exact absurd (show (0 : Int) = 10 from h) (by decide)
  have hoff : dz.off = false := hoff
  have htn : getAt (lastOf (dz.vals.getD 2 [])) 4 4 = tt := htn
  have hot : dz.taken ≤ 303 := by have := HTC.out.2; have : dz.taken ≤ dc.taken + 103 := hot; omega
  obtain ⟨t2, ho2, hlg, htn2⟩ := open_again (t := 0) HKO.out hcls hoff
  have ho2 : openD dz 2 5 = (0, t2, dz) := ho2
  have hlg : logged dz 2 5 = (0, ⟨t2, []⟩) := hlg
  have htn2 : getAt (lastOf (dz.vals.getD 2 [])) 4 4 = t2 := htn2
  have htt : t2 = tt := htn2.symm.trans htn
  subst htt
  have HOP := Aside0.mk hop
  have HO2 := Aside0.mk ho2
  have HLG := Aside0.mk hlg
  have HOT := Aside0.mk hot
  clear hop hcls hoff htn htn2 ho2 hlg hao hcr H9 k1 hot
  go_wp2_with fail
  refine HOP.out.mono ?_
  rintro e w10 (⟨_, lx, rfl, H10⟩ | ⟨hne, _⟩)
  · have h10 := St.swap H10
    have hops := Aside0.mk h10.ops
    obtain ⟨il, hil⟩ : ∃ il, il = dz.image.length := ⟨_, rfl⟩
    have him := Aside0.mk (h10.imageAt (by show dz.taken ≤ maxTaken; have := HOT.out; unfold maxTaken; omega) hil.symm)
    have HIL := Aside0.mk hil
    clear HOP H10 h10 hil
    go_wp2_with fail
    refine hops.out.mono ?_
    rintro e w11 ⟨rfl, rfl⟩
    clear hops
    go_wp2_with fail
    refine him.out.mono ?_
    rintro e w12 ⟨Ai, ci, rfl, H12⟩
    have hop := Aside0.mk ((St.swap H12).openL HTW.out 2 5 (by omega) (by show dz.taken + 103 < maxTaken; have := HOT.out; unfold maxTaken; omega) HO2.out)
    clear him H12
    go_wp2_with fail
    refine hop.out.mono ?_
    rintro e w13 (⟨_, ly, rfl, H13⟩ | ⟨hne, _⟩)
    · have h13 := St.swap H13
      have hck := Aside0.mk (h13.checkL HTW.out 2 5 (by omega) HLG.out)
      clear hop H13 h13
      go_wp2_with fail
      refine hck.out.mono ?_
      rintro e w14 ⟨vc, rfl, H14⟩
      obtain ⟨Ac, cc, rfl⟩ := own_slice H14.row
      have h14 := H14.drop
      have hops := Aside0.mk h14.ops
      have him := Aside0.mk (h14.imageAt (by show dz.taken ≤ maxTaken; have := HOT.out; unfold maxTaken; omega) HIL.out.symm)
      clear hck H14 h14
      go_wp2_with fail
      refine hops.out.mono ?_
      rintro e w15 ⟨rfl, rfl⟩
      clear hops
      go_wp2_with fail
      refine him.out.mono ?_
      rintro e w16 ⟨Aj, cj, rfl, H16⟩
      have hsm := same_of (c1 := cj) (c2 := ci) (H16.rdRow HIL.out.symm) ((H16.order [3, 0, 1, 2] (by decide)).rdRow HIL.out.symm) HIL.out.symm HIL.out.symm
      rw [show decide (dz.image = dz.image) = true from decide_eq_true rfl] at hsm
      have HSM := Aside0.mk hsm
      have H16 := Aside0.mk H16
      clear him hsm
      go_wp2_with fail
      refine HSM.out.mono ?_
      rintro e w17 ⟨rfl, hb⟩
      have h17 := H16.out.go hb
      obtain ⟨x0, _, _, x3, _⟩ := walObj.cells (h17.order [4, 0, 1, 2, 3] (by decide)).blk
      obtain ⟨y0, _, _, y3, _⟩ := walObj.cells (h17.order [2, 0, 1] (by decide)).blk
      have hx := Aside0.mk (wal_turn x0 x3)
      have hy := Aside0.mk (wal_turn y0 y3)
      have HBL := Aside0.mk h17.below
      clear HSM H16 hb h17 x0 x3 y0 y3
      go_wp2_with fail
      refine hx.out.mono ?_
      rintro e w18 ⟨rfl, rfl⟩
      clear hx
      go_wp2_with fail
      refine hy.out.mono ?_
      rintro e w19 ⟨rfl, rfl⟩
      clear hy
      go_wp2
      go_ret
      exact ⟨rfl, HBL.out⟩
    · exact absurd rfl hne
  · exact absurd rfl hne
end
end Go.Proofs.YtfhdiddlloiglaaDoor
end
section
/- WalCosts walked: what a commit takes, and that it leaves other sectors as they are. -/
namespace Go.Proofs.YtfhdiddlloiglaaDoor
open Go.RowKit Go.Proofs.YtfhdiddlloiglaaDoorW.PrintWords
attribute [local go_sem ↓] Go.wp_at_zero Go.wp_at_succ
set_option linter.unusedVariables false
set_option linter.unusedSimpArgs false
set_option maxRecDepth 100000

def costOf (k : Nat) : Nat := if 0 < k then 2 * k + 6 else 0
theorem costs_any {n : Nat} {want : List (Int × Sec)} (h : Wanted n want) (hn : 9 ≤ n ∧ n ≤ 4096) :
    ∃ (g' : Lg) (d' : Dsk), commitD ⟨2, 5, 0, false⟩ (begunD n) want = (0, g', d') ∧ d'.vals.length = n ∧ d'.off = false ∧ allB d' want = true ∧ d'.pending = 0 ∧ d'.taken = (begunD n).taken + costOf want.length ∧
      (∀ j, j < n → (j < 2 ∨ 7 < j) → (∀ x ∈ want, x.1 ≠ j) → lastOf (d'.vals.getD j []) = lastOf ((begunD n).vals.getD j [])) := by
  by_cases hne : want = []
  · subst hne
    rcases commit_nil (n := n) (d := begunD n) (g := ⟨2, 5, 0, false⟩) with e | e
    · refine ⟨_, _, e, begun_len n, rfl, rfl, pending_zero ?_, rfl, fun _ _ _ _ => rfl⟩
      intro x hx
      obtain ⟨j, _, rfl⟩ := List.mem_map.1 (show x ∈ (List.range n).map (fun j => [initS j]) from hx)
      rfl
    · exact absurd e (by decide)
  · have hw : ∀ x ∈ want, ((2 + 5 : Nat) : Int) < x.1 ∧ x.1 < n := fun x hx => by have := h.2.1 x hx; omega
    obtain ⟨d', h1, h2, h3, _, h5, h6, h7⟩ := commit_free (lawK_ok h hn) hw h.2.2 (begun_A n want hn.1) rfl rfl hne
    refine ⟨_, d', h1, h2.len, h3, allB_iff.2 fun x hx => lasts_want h h2 hx, h5, ?_, fun j hj hj2 hx => h7 j hj (by omega) hx⟩
    rw [h6]
    have : 0 < want.length := List.length_pos_iff.2 hne
    unfold costOf
    rw [if_pos this]
section
variable {w0 w : World} {p lp : Nat} {d : Dsk} {L : List Res}
theorem same_true {w : World} {A1 A2 : Option Addr} {n1 n2 c1 c2 : Nat} {l1 l2 : List Int} (h1 : Rd w A1 l1) (h2 : Rd w A2 l2) (e1 : l1.length = n1) (e2 : l2.length = n2) (e : l1 = l2) : Calls Tryd.prog 26 #[.slice A1 n1 c1, .slice A2 n2 c2] w fun e w' => e = .returned (.bool true) ∧ Below w.heap.size w w' := by
  have := same_of (c1 := c1) (c2 := c2) h1 h2 e1 e2
  rwa [show decide (l1 = l2) = true from decide_eq_true e] at this
theorem St.secAt {g c m : Nat} {d : Dsk} (H : St w0 w (rRow 5 1 (.slice (some ⟨g, 0, none⟩) m c) m (bytes d.image) :: L)) {s : Sec} {i : Nat} (hs : (d.image.drop (i * 256)).take 256 = s) : Rd w (some ⟨g, i * 256, none⟩) s := by
  have h := (H.rowCells).part (i * 256) 256
  rw [hs] at h
  obtain ⟨T, S, hh, _⟩ := h.fst
  rw [Nat.zero_add] at hh
  exact hh.1.rd (by rw [← hs, List.length_take]; omega)
set_option maxHeartbeats 4000000 in
theorem costs_calls (hT : Half w) (sectors : Int) {A1 : Option Addr} {c1 m1 : Nat} {l : List Int} (hl : RdI w A1 l) (hm1 : l.length = m1) {fill : Int} (hfill : 0 ≤ fill ∧ fill ≤ 255) :
    Calls Tryd.prog 5 #[.int .i64 sectors, .slice A1 m1 c1, .int .u8 fill] w fun e w' => e = .returned (.bool true) ∧ Below w.heap.size w w' := by
  have HAM := Aside0.mk (fun W => among_calls W sectors (m := 20) (by omega) (by omega))
  have hs := among_lt sectors (m := 20) (by omega)
  obtain ⟨s, hse⟩ : ∃ s, s = among sectors 20 := ⟨_, rfl⟩
  rw [← hse] at HAM hs
  obtain ⟨n, hn⟩ : ∃ n, n = 9 + s := ⟨_, rfl⟩
  have hn9 : 9 ≤ n ∧ n ≤ 28 := by omega
  have en : (9 : Int) + (s : Int) = (n : Int) := by omega
  have EN := Aside0.mk en
  have HR := Aside0.mk hl
  have HM1 := Aside0.mk hm1
  have HT := Aside0.mk hT
  have HW := Aside0.mk (works_calls hT)
  have H0 := Aside0.mk (St.start w)
  clear hT hl hm1 hse hn en
  go_enter Tryd.func5, Tryd.ntmps5
  go_wp2_with fail
  refine HW.out.mono ?_
  rintro e w1 ⟨rfl, hb⟩
  have H1 := Aside0.mk (H0.out.go hb)
  clear HW hb H0
  go_wp2_with fail
  refine (HAM.out _).mono ?_
  rintro e w2 ⟨rfl, rfl⟩
  clear HAM
  have hbg := Aside0.mk (H1.out.begun HT.out (n := n) ⟨hn9.1, by omega⟩)
  go_upto_region 4 with fail
  rw [EN.out]
  clear EN hs H1
  go_wp2_with fail
  refine hbg.out.mono ?_
  rintro e w3 ⟨p, lp, rfl, H3⟩
  have hat := Aside0.mk ((H3.oldK HR.out).ats (c := c1) (n := n) HM1.out ⟨hn9.1, by omega⟩)
  clear hbg H3
  go_wp2_with fail
  refine hat.out.mono ?_
  rintro e w6 ⟨Aa, ca, rfl, H6⟩
  obtain ⟨la, hla⟩ : ∃ la, la = atsL n l := ⟨_, rfl⟩
  obtain ⟨k, hk⟩ : ∃ k, k = la.length := ⟨_, rfl⟩
  have hk5 : k ≤ 5 := by rw [hk, hla]; exact (atsL_ok hn9.1 l).1
  have hwd : Wanted n (blocksTo la fill k) := by rw [hk, hla]; exact atsL_wanted hn9.1 l fill
  rw [← hla, ← hk] at H6 ⊢
  have HB := Aside0.mk ((H6.rowK hk.symm).blocks (c := ca) (f := fill) hk.symm (by omega) hfill)
  obtain ⟨want, hwt⟩ : ∃ want, want = blocksTo la fill k := ⟨_, rfl⟩
  have hwl : want.length = k := by rw [hwt]; simp [blocksTo]
  rw [← hwt] at HB hwd
  obtain ⟨g', d', hcd, hdl, hdo, hda, hdp, hdt, hdk⟩ := costs_any hwd ⟨hn9.1, by omega⟩
  rw [hwl] at hdt
  have HWD := Aside0.mk hwd
  have HWL := Aside0.mk hwl
  have HCD := Aside0.mk hcd
  have HDL := Aside0.mk hdl
  have HDO := Aside0.mk hdo
  have HDA := Aside0.mk hda
  have HDP := Aside0.mk hdp
  have HDT := Aside0.mk hdt
  have HDK := Aside0.mk hdk
  clear H6 hat hla hk hwt hwd hwl HR HM1 hcd hdl hdo hda hdp hdt hdk
  go_wp2_with fail
  refine HB.out.mono ?_
  rintro e w7 ⟨Aw, cw, ew, rfl, H7⟩
  have h7 := H7.order [5, 4, 0, 1, 2, 3] (by decide)
  have hops := h7.ops
  have hbt : (begunD n).taken = 2 + (n - 8) + 1 := rfl
  obtain ⟨bt, hbte⟩ : ∃ bt, bt = (begunD n).taken := ⟨_, rfl⟩
  rw [← hbte] at hops
  have hbt2 : bt ≤ 30 := by rw [hbte, hbt]; omega
  have HBT := Aside0.mk hbte
  have HOPS := Aside0.mk hops
  have hil1 : (begunD n).image.length = n * 256 := by rw [h7.diskOk.image_len, begun_len]
  obtain ⟨N, hN⟩ : ∃ N, N = n * 256 := ⟨_, rfl⟩
  rw [← hN] at hil1
  have HN := Aside0.mk hN
  have him := Aside0.mk (h7.imageAt (by show 2 + (n - 8) + 1 ≤ maxTaken; unfold maxTaken; omega) hil1)
  have HIL1 := Aside0.mk hil1
  have HOK0 := Aside0.mk h7.diskOk
  clear HB H7 h7 hops hbt hbte hN hil1
  go_wp2_with fail
  refine HOPS.out.mono ?_
  rintro e w8 ⟨rfl, rfl⟩
  clear HOPS
  go_wp2_with fail
  refine him.out.mono ?_
  rintro e w9 ⟨Ai, ci, rfl, H9⟩
  have hcm := (H9.order [2, 1, 3, 4, 0, 5, 6] (by decide)).commitL HT.out (by decide) (by decide) ⟨by decide, by decide⟩ ⟨by decide, by decide⟩ (by omega) (by show 2 + (n - 8) + 1 + 301 < maxTaken; unfold maxTaken; omega)
  rw [HCD.out] at hcm
  have HCM := Aside0.mk hcm
  clear him H9 hcm
  go_wp2_with fail
  refine HCM.out.mono ?_
  rintro e w10 ⟨rfl, H10⟩
  have hlen := HDL.out
  have hal := H10.drop.all (by omega) HDO.out (fun x hx => by rw [hlen]; exact wanted_in HWD.out x hx)
  rw [HDA.out] at hal
  have HAL := Aside0.mk hal
  clear HCM H10 hal hlen
  go_wp2_with fail
  refine HAL.out.mono ?_
  rintro e w11 ⟨rfl, H11⟩
  have hpe := H11.pending
  rw [HDP.out] at hpe
  have HPE := Aside0.mk hpe
  have H11 := Aside0.mk H11
  clear HAL hpe
  go_wp2_with fail
  refine HPE.out.mono ?_
  rintro e w12 ⟨rfl, rfl⟩
  clear HPE
  obtain ⟨cost, hco⟩ : ∃ cost, cost = costOf k := ⟨_, rfl⟩
  have hc16 : cost ≤ 16 := by rw [hco]; unfold costOf; split <;> omega
  have HCO := Aside0.mk hco
  clear hco
  go_upto_if 55 with fail
  go_cut [12] (fun v12 W => v12 = .int .i64 (cost : Int) ∧ W = w12)
  case first =>
    by_cases hk0 : 0 < k
    · have q1 : decide ((0 : Int) < (k : Int)) = true := decide_eq_true (by omega)
      have q1' : (0 : Int) < (k : Int) := by omega
      have ec : (cost : Int) = 2 * (k : Int) + 6 := by rw [HCO.out]; unfold costOf; rw [if_pos hk0]; omega
      have EC := Aside0.mk ec
      clear ec
      go_wp2_with fail
      go_meet
      exact ⟨by rw [EC.out], rfl⟩
    · have hk00 : k = 0 := by omega
      have q1 : decide ((0 : Int) < (k : Int)) = false := decide_eq_false (by omega)
      have q1' : ¬ (0 : Int) < (k : Int) := by omega
      have q1'' : ¬ 0 < k := by omega
      have ec : (cost : Int) = 0 := by rw [HCO.out]; unfold costOf; rw [if_neg hk0]; rfl
      have EC := Aside0.mk ec
      clear ec hk00
      go_wp2_with fail
      go_meet
      exact ⟨by rw [EC.out], rfl⟩
  case rest =>
    obtain ⟨rfl, rfl⟩ := hcut
    have hdt := HDT.out
    have hbt' : bt = (begunD n).taken := HBT.out
    have hil2 : d'.image.length = N := by rw [H11.out.diskOk.image_len, HDL.out, HN.out]
    have him := Aside0.mk (H11.out.imageAt (by rw [hdt, ← hbt', ← HCO.out]; unfold maxTaken; omega) hil2)
    have HIL2 := Aside0.mk hil2
    have HOK2 := Aside0.mk H11.out.diskOk
    clear H11 hdt hbt' hil2
    go_wp2_with fail
    refine him.out.mono ?_
    rintro e w13 ⟨Aj, cj, rfl, H13⟩
    have hn0 : 0 < N := by rw [HN.out]; omega
    obtain ⟨gj, _, ej, hcj⟩ := ownsRow_formC H13.row hn0
    injection ej with ej _ ejc
    subst ej
    subst ejc
    obtain ⟨gi, _, ei, hci⟩ := ownsRow_formC (H13.order [4, 0, 1, 2, 3] (by decide)).row hn0
    injection ei with ei _ eic
    subst ei
    subst eic
    have H13 := Aside0.mk (H13.order [0, 4, 2, 3, 1] (by decide))
    clear him
    go_wp2_with fail
    go_loopw [14] (fun v14 W => ∃ i : Nat, v14 = .int .i64 (i : Int) ∧ i ≤ n ∧ Aside0 (St w W (rRow 5 1 (.slice (some ⟨gj, 0, none⟩) N cj) N (bytes d'.image) :: rRow 5 1 (.slice (some ⟨gi, 0, none⟩) N ci) N (bytes (begunD n).image) :: rRow 48 2 (.slice Aw k cw) k (encB ew) :: rDats ew want :: rDisk p d' :: [rRdK .i64 Aa la, rRdK .i64 A1 l]))) (fun v14 _ => n - (RowKit.intOf v14).toNat)
    case atStart => exact ⟨0, rfl, Nat.zero_le _, ⟨H13.out⟩⟩
    case round =>
      clear H13
      obtain ⟨i, rfl, hi, HI⟩ := hrel
      by_cases hin : i < n
      · have t1 : decide ((i : Int) < (n : Int)) = true := decide_eq_true (by omega)
        have t1' : (i : Int) < (n : Int) := by omega
        have t1'' : (0 : Int) ≤ (i : Int) := by omega
        obtain ⟨h0, hh0⟩ : ∃ h0, h0 = decide (2 ≤ i ∧ i < 8) := ⟨_, rfl⟩
        have HH0 := Aside0.mk hh0
        clear hh0
        obtain ⟨wr0, hwr0⟩ : ∃ wr0, wr0 = wr := ⟨_, rfl⟩
        go_upto_region 18 with fail
        go_cut [15] (fun v15 W => v15 = .bool h0 ∧ W = wr)
        case first =>
          by_cases h2 : 2 ≤ i
          · have q1 : decide ((2 : Int) ≤ (i : Int)) = true := decide_eq_true (by omega)
            have q1' : (2 : Int) ≤ (i : Int) := by omega
            by_cases h8 : i < 8
            · have q2 : decide ((i : Int) < 8) = true := decide_eq_true (by omega)
              go_wp2_with fail
              go_meet
              exact ⟨by rw [HH0.out, decide_eq_true ⟨h2, h8⟩], rfl⟩
            · have q2 : decide ((i : Int) < 8) = false := decide_eq_false (by omega)
              go_wp2_with fail
              go_meet
              exact ⟨by rw [HH0.out, decide_eq_false (fun h => h8 h.2)], rfl⟩
          · have q1 : decide ((2 : Int) ≤ (i : Int)) = false := decide_eq_false (by omega)
            go_wp2_with fail
            go_meet
            exact ⟨by rw [HH0.out, decide_eq_false (fun h => h2 h.1)], rfl⟩
        case rest =>
          obtain ⟨rfl, rfl⟩ := hcut
          clear hwr0
          obtain ⟨hit, hhit⟩ : ∃ hit : Nat → Bool, hit = fun j => h0 || ((homesOf want).take j).any (fun x => x == (i : Int)) := ⟨_, rfl⟩
          have h00 : hit 0 = h0 := by rw [hhit]; simp
          have HHIT := Aside0.mk hhit
          have H00 := Aside0.mk h00
          clear hhit h00
          go_wp2_with fail
          go_loop [15, 16] (fun v15 v16 => ∃ j : Nat, v16 = .int .i64 (j : Int) ∧ j ≤ k ∧ v15 = .bool (hit j)) (fun _ v16 => k - (RowKit.intOf v16).toNat)
          case atStart => exact ⟨0, rfl, Nat.zero_le _, by rw [H00.out]⟩
          case round =>
            clear H00
            obtain ⟨j, rfl, hj, rfl⟩ := hrel
            by_cases hjk : j < k
            · have u1 : decide ((j : Int) < (k : Int)) = true := decide_eq_true (by omega)
              have u1' : (j : Int) < (k : Int) := by omega
              have u1'' : (0 : Int) ≤ (j : Int) := by omega
              obtain ⟨lb, cA, eA, _⟩ := ownsRow_formC HI.out.drop.drop.row (by omega)
              injection eA with eA _ eC
              subst eA
              subst eC
              have hel : ew.length = k := by have := HI.out.drop.drop.row.1; rw [encB_len] at this; omega
              have hje : j < ew.length := by omega
              have hjl : j < want.length := by rw [HWL.out]; exact hjk
              have hg := encB_get ew hje
              have l0 := rRow_dat HI.out.drop.drop _ _ hg.1
              rw [addr_add, Nat.zero_add] at l0
              obtain ⟨⟨ha, _, _, _⟩, _⟩ := HI.out.drop.drop.drop.dat (i := j) (e := ew[j]) (x := want[j]) (by rw [List.getElem?_eq_getElem hje]) (by rw [List.getElem?_eq_getElem hjl])
              have hsu : hit (j + 1) = (hit j || (want[j].1 == (i : Int))) := by
                rw [HHIT.out]
                show (h0 || ((homesOf want).take (j + 1)).any _) = ((h0 || ((homesOf want).take j).any _) || _)
                rw [List.take_succ_eq_append_getElem (by rw [homesOf, List.length_map]; exact hjl), List.any_append]
                simp [homesOf, Bool.or_assoc]
              rw [← ha] at hsu
              generalize ew[j].at_ = ea at *
              cases hh : hit j with
              | true =>
                have hs2 : hit (j + 1) = true := by rw [hsu, hh]; rfl
                have HS2 := Aside0.mk hs2
                clear hs2 hsu ha hg hel l0 hh
                go_wp2
                go_round
                case rel => exact ⟨j + 1, by go_num, hjk, by rw [HS2.out]⟩
                case measure => simp only [RowKit.intOf]; omega
              | false =>
                have hs2 : hit (j + 1) = (ea == (i : Int)) := by rw [hsu, hh]; rfl
                have HS2 := Aside0.mk hs2
                obtain ⟨bb, hbb⟩ : ∃ bb, bb = (ea == (i : Int)) := ⟨_, rfl⟩
                have HBB := Aside0.mk hbb
                clear hs2 hsu ha hg hel hh hbb
                go_wp2
                go_round
                case rel => exact ⟨j + 1, by go_num, hjk, by rw [HS2.out]⟩
                case measure => simp only [RowKit.intOf]; omega
            · have hje : j = k := by omega
              subst hje
              have u1 : decide ((j : Int) < (j : Int)) = false := decide_eq_false (by omega)
              have hall : hit j = (h0 || (homesOf want).any (fun x => x == (i : Int))) := by
                rw [HHIT.out]
                show (h0 || ((homesOf want).take j).any _) = _
                rw [List.take_of_length_le (by rw [homesOf, List.length_map, HWL.out]; omega)]
              have HALL := Aside0.mk hall
              clear hall
              go_upto_region 23 with fail
              generalize hit j = hv at *
              go_cut [108] (fun v108 W => v108 = .bool false ∧ Aside0 (St w W (rRow 5 1 (.slice (some ⟨gj, 0, none⟩) N cj) N (bytes d'.image) :: rRow 5 1 (.slice (some ⟨gi, 0, none⟩) N ci) N (bytes (begunD n).image) :: rRow 48 2 (.slice Aw j cw) j (encB ew) :: rDats ew want :: rDisk p d' :: [rRdK .i64 Aa la, rRdK .i64 A1 l])))
              case first =>
                as_aux_lemma =>
                  cases hv with
                  | true =>
                    refine wp_region_quiet_below (by kernel_rfl) (by kernel_rfl) ?_
                    repeat (
                      with_reducible refine wpQuiet_step ?_
                      intro K hK
                      go_simp
                      with_reducible refine hK _ ?_
                      clear hK K)
                    with_reducible refine wpQuiet_nil ?_
                    intro _ hw'
                    obtain ⟨⟨dq, osq⟩, hw''⟩ := hw'
                    subst hw''
                    have hq := below_regrown wc dq osq
                    go_wp2_with fail
                    go_meet
                    exact ⟨rfl, ⟨HI.out.go hq⟩⟩
                  | false =>
                    obtain ⟨lo, hlo⟩ : ∃ lo, lo = i * 256 := ⟨_, rfl⟩
                    have hNN := HN.out
                    have hs1 : ((begunD n).image.drop (i * 256)).take 256 = lastOf ((begunD n).vals.getD i []) := image_sec HOK0.out (by rw [begun_len]; exact hin)
                    have hs2 : (d'.image.drop (i * 256)).take 256 = lastOf (d'.vals.getD i []) := image_sec HOK2.out (by rw [HDL.out]; exact hin)
                    have hb2 : (h0 || (homesOf want).any (fun x => x == (i : Int))) = false := HALL.out.symm
                    obtain ⟨hb3, hb4⟩ := Bool.or_eq_false_iff.1 hb2
                    have hkeep : lastOf (d'.vals.getD i []) = lastOf ((begunD n).vals.getD i []) := HDK.out i hin (by
                      have := HH0.out
                      rw [hb3] at this
                      have := of_decide_eq_false this.symm
                      omega) (fun x hx e => by
                      have := List.any_eq_false.1 hb4 x.1 (List.mem_map.2 ⟨x, hx, rfl⟩)
                      simp [e] at this)
                    rw [hkeep] at hs2
                    have hsl : (lastOf ((begunD n).vals.getD i [])).length = 256 := (HOK0.out.sec_at (by rw [begun_len]; exact hin)).1
                    generalize lastOf ((begunD n).vals.getD i []) = sv at *
                    have su1 : ∀ W, Below wc.heap.size wc W → Calls Tryd.prog 26 #[.slice (some ⟨gi, lo, none⟩) 256 (ci - lo), .slice (some ⟨gj, lo, none⟩) 256 (cj - lo)] W fun e w' => e = .returned (.bool true) ∧ Below W.heap.size W w' := fun W hW => by
                      have h5 := HI.out.go hW
                      have r1 := (St.swap h5).secAt hs1
                      have r2 := h5.secAt hs2
                      rw [← hlo] at r1 r2
                      exact same_true r1 r2 hsl hsl rfl
                    have r1 : ∀ d os, Calls Tryd.prog 26 #[.slice (some ⟨gi, lo, none⟩) 256 (ci - lo), .slice (some ⟨gj, lo, none⟩) 256 (cj - lo)] (Sort.grow (redrawn wc d) os) fun e w'' => e = .returned (.bool true) ∧ ∃ p : Regrown, w'' = Sort.grow (redrawn wc p.d) p.os := fun d os => Calls.regrown_of (su1 _ (below_regrown wc d os))
                    have wi1 : IntKind.i64.wrap ((i : Int) * 256) = (lo : Int) := by rw [IntWalk.i64_in _ (by omega)]; omega
                    have wi2 : IntKind.i64.wrap ((i : Int) + 1) = (i : Int) + 1 := by rw [IntWalk.i64_in _ (by omega)]
                    have wi3 : IntKind.i64.wrap (((i : Int) + 1) * 256) = ((i : Int) + 1) * 256 := by rw [IntWalk.i64_in _ (by omega)]
                    have hN2 : (i + 1) * 256 ≤ N := by rw [hNN]; omega
                    have q1 : (0 : Int) ≤ (lo : Int) := by omega
                    have q2 : (lo : Int) ≤ ((i : Int) + 1) * 256 := by omega
                    have q3 : ((i : Int) + 1) * 256 ≤ (ci : Int) := by omega
                    have q3' : ((i : Int) + 1) * 256 ≤ (cj : Int) := by omega
                    have q5 : (0 : Int) ≤ ((i : Int) + 1) * 256 := by omega
                    have q6 : lo ≤ (i + 1) * 256 := by omega
                    have e256 : (((i : Int) + 1) * 256).toNat - lo = 256 := by omega
                    have q4 : ¬ ci = lo := by omega
                    have q4' : ¬ cj = lo := by omega
                    clear su1 hlo hNN hs1 hs2 hb2 hb3 hb4 hkeep hsl hN2
                    refine wp_region_quiet_below (by kernel_rfl) (by kernel_rfl) ?_
                    repeat (
                      with_reducible refine wpQuiet_step ?_
                      intro K hK
                      go_simp
                      first
                        | (with_reducible refine hK _ ?_; clear hK K)
                        | (apply Exists.intro
                           refine ⟨fun _ => ?_, hK _ ?_⟩
                           with_reducible exact r1 _ _
                           clear hK K))
                    with_reducible refine wpQuiet_nil ?_
                    intro _ hw'
                    obtain ⟨⟨dq, osq⟩, hw''⟩ := hw'
                    subst hw''
                    have hq := below_regrown wc dq osq
                    go_wp2_with fail
                    go_meet
                    exact ⟨rfl, ⟨HI.out.go hq⟩⟩
              case rest =>
                obtain ⟨rfl, HI2⟩ := hcut
                clear HI
                go_wp2
                go_roundw
                case rel => exact ⟨i + 1, by go_num, hin, HI2⟩
                case measure => simp only [RowKit.intOf]; omega
      · have hie : i = n := by omega
        subst hie
        have t1 : decide ((i : Int) < (i : Int)) = false := decide_eq_false (by omega)
        have hops := (HI.out.order [4, 0, 1, 2, 3] (by decide)).ops
        have htt : d'.taken = bt + cost := by rw [HDT.out, HBT.out, HCO.out]
        rw [htt] at hops
        have ew1 : wrap64 ((bt : Int) + (cost : Int)) = ((bt + cost : Nat) : Int) := by unfold wrap64; omega
        have ew2 : ((bt + cost : Nat) : Int) = (bt : Int) + (cost : Int) := by omega
        rw [ew2] at hops
        have HOPS := Aside0.mk hops
        have HB := Aside0.mk HI.out.below
        clear hops htt ew1 ew2 HI
        go_wp2_with fail
        refine HOPS.out.mono ?_
        rintro e w14 ⟨rfl, rfl⟩
        clear HOPS
        go_wp2
        go_ret
        exact ⟨rfl, HB.out⟩
end
end Go.Proofs.YtfhdiddlloiglaaDoor
end
