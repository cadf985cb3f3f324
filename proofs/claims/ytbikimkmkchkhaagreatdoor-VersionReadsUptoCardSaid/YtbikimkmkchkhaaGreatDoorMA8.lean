/- Texts of this claim, one behind the other: ParseP, HParse. -/
import Derived.Test.YtbikimkmkchkhaaGreatDoorMA6
import Derived.Lib.AppendIntMem
import Derived.Test.YtbikimkmkchkhaaGreatDoorMA7
import Derived.Deep.AppendLies
section
/- version.Parse in plain Lean; the package variables that it reads. -/
namespace Go.Proofs.YtbikimkmkchkhaaGreatDoor.PAll
open Go.RowKit Go.Lib Go.Shelf Go.Proofs.YtbikimkmkchkhaaGreatDoor Go.Proofs.YtbikimkmkchkhaaGreatDoorW.PrintWords Go.Proofs.YtbikimkmkchkhaaGreatDoorW.PrintLast Go.Proofs.YtbikimkmkchkhaaGreatDoorW.PrintMore
set_option linter.unusedVariables false
set_option linter.unusedSimpArgs false

/-- What the library's variables hold. -/
structure Tabs (w : World) : Prop where
  len : ∃ m, w.cell? ⟨0, 0, none⟩ = some (.int .i64 m)
  pow : Lib.TabIs Tryz.prog w "internal/strconv.uint64pow10" .u64 Lib.pow10Tab
  syn : ∃ tp p, w.var? Tryz.prog "strconv.ErrSyntax" = some #[.iface tp p]
  rng : ∃ tp p, w.var? Tryz.prog "strconv.ErrRange" = some #[.iface tp p]
theorem var_below {w W : World} (hb : Below w.heap.size w W) {n : String} {cs : Array Value} (h : w.var? Tryz.prog n = some cs) : W.var? Tryz.prog n = some cs := by
  unfold World.var? at h ⊢
  cases hg : Tryz.prog.globalNamed n with
  | none => rw [hg] at h; cases h
  | some g =>
    rw [hg] at h
    simp only [Option.bind_some] at h ⊢
    cases ho : w.heap[g]? with
    | none => rw [ho] at h; cases h
    | some o => rw [kb_belows hb ho]; rw [ho] at h; exact h
theorem Tabs.below {w W : World} (h : Tabs w) (hb : Below w.heap.size w W) : Tabs W := by
  obtain ⟨⟨m, hm⟩, h2, ⟨t3, p3, h3⟩, ⟨t4, p4, h4⟩⟩ := h
  exact ⟨⟨m, (hb.cell (World.block_lt_of_cell? w _ hm)).trans hm⟩, var_below hb h2, ⟨t3, p3, var_below hb h3⟩, ⟨t4, p4, var_below hb h4⟩⟩

/-- A part, read: its number, if it is told just so. -/
def pieceV (s : ByteArray) : Option Int := match Lib.atoiAll s.data.toList with
  | .ok v => if Lib.itoa v = s.data.toList then some v else none
  | _ => none
def piecesV : List ByteArray → Option (List Int)
  | [] => some []
  | s :: l => (pieceV s).bind fun v => (piecesV l).map (v :: ·)
theorem piecesV_append : ∀ (l m : List ByteArray), piecesV (l ++ m) = (piecesV l).bind fun vs => (piecesV m).map (vs ++ ·)
  | [], m => by simp [piecesV]
  | s :: l, m => by
    simp only [List.cons_append, piecesV, piecesV_append l m]
    cases pieceV s <;> simp
    cases piecesV l <;> simp
    cases piecesV m <;> simp
theorem piecesV_len : ∀ {l : List ByteArray} {vs : List Int}, piecesV l = some vs → vs.length = l.length
  | [], vs, h => by simp only [piecesV, Option.some.injEq] at h; subst h; rfl
  | s :: l, vs, h => by
    simp only [piecesV, Option.bind_eq_some_iff, Option.map_eq_some_iff] at h
    obtain ⟨v, _, ws, hw, rfl⟩ := h
    simp [piecesV_len hw]
theorem piecesV_snoc {ps : List ByteArray} {k : Nat} (hk : k < ps.length) {vs : List Int} (h : piecesV (ps.take k) = some vs) : piecesV (ps.take (k + 1)) = (pieceV ps[k]).map fun v => vs ++ [v] := by
  rw [List.take_succ_eq_append_getElem hk, piecesV_append, h]
  simp only [Option.bind_some, piecesV]
  cases pieceV ps[k] <;> simp
theorem piecesV_stop {ps : List ByteArray} {k : Nat} (hk : k < ps.length) (h : pieceV ps[k] = none) : piecesV ps = none := by
  have e : ps = ps.take k ++ ps[k] :: ps.drop (k + 1) := by rw [← List.drop_eq_getElem_cons hk, List.take_append_drop]
  rw [e, piecesV_append]
  have : piecesV (ps[k] :: ps.drop (k + 1)) = none := by simp [piecesV, h]
  rw [this]
  cases piecesV (ps.take k) <;> rfl
def dot : ByteArray := ⟨#[46]⟩
def frontOf (s : ByteArray) : ByteArray := ⟨(Lib.cut s.data.toList [45]).1.toArray⟩
def tailOf (s : ByteArray) : ByteArray := ⟨(Lib.cut s.data.toList [45]).2.1.toArray⟩
def isCut (s : ByteArray) : Bool := (Lib.cut s.data.toList [45]).2.2
def partsOf (f : ByteArray) : List ByteArray := Lib.splitB dot 0 (Lib.countB f dot) f
def badP : List Int × ByteArray × Int := ([], ⟨#[]⟩, 170)
def parseV (s : ByteArray) : List Int × ByteArray × Int := match piecesV (partsOf (frontOf s)) with
  | none => badP
  | some vs => if (isCut s && (tailOf s).toList.isEmpty) || badV vs (tailOf s) then badP else (vs, tailOf s, 0)
theorem atoi_range {l : List UInt8} {v : Int} (h : Lib.atoiAll l = .ok v) : -9223372036854775808 ≤ v ∧ v ≤ 9223372036854775807 := by
  cases l with
  | nil => simp [Lib.atoiAll] at h
  | cons c r =>
    unfold Lib.atoiAll at h
    simp only [] at h
    split at h
    · cases h
    · cases h
    · split at h
      · cases h
      · split at h
        · cases h
        · rename_i u _ h1 h2
          simp only [NumEnd.ok.injEq] at h
          by_cases hn : c.toNat = 45
          · rw [if_pos hn] at h
            have : ¬ 9223372036854775808 < u := fun h => h2 ⟨hn, h⟩
            omega
          · rw [if_neg hn] at h
            have : ¬ 9223372036854775808 ≤ u := fun h => h1 ⟨hn, h⟩
            omega
/-- strconv.Atoi, whatever the text. -/
def atoiN (s : ByteArray) : Int := match Lib.atoiAll s.data.toList with | .ok v => v | .range => Lib.atoiSat s.data.toList | _ => 0
def atoiErr (s : ByteArray) : Bool := match Lib.atoiAll s.data.toList with | .ok _ => false | _ => true
theorem bytesWorld_below (w : World) (t : ByteArray) : Below w.heap.size w (Lib.bytesWorld w 5 t) := bytes_below (Below.refl _ _) (Nat.le_refl _) 5 t
theorem atoi_three (s : ByteArray) : (∃ v, Lib.atoiAll s.data.toList = .ok v) ∨ Lib.atoiAll s.data.toList = Lib.atoiAll [] ∨ Lib.atoiAll s.data.toList = .range := by
  cases h : Lib.atoiAll s.data.toList
  · exact Or.inl ⟨_, rfl⟩
  · exact Or.inr (Or.inl rfl)
  · exact Or.inr (Or.inr rfl)
theorem atoi_calls (s : ByteArray) (w : World) (hs : s.size ≤ 281474976710656) (hT : Tabs w) :
    Calls Tryz.prog 15 #[.string s] w fun e w' => ∃ ev, e = .returned (.tuple #[.int .i64 (atoiN s), ev]) ∧ (if atoiErr s then ∃ p, ev = .iface 70 p else ev = .nilIface) ∧ Below w.heap.size w w' := by
  rcases atoi_three s with ⟨v, h⟩ | h | h
  · have e1 : atoiN s = v := by unfold atoiN; rw [h]
    have e2 : atoiErr s = false := by unfold atoiErr; rw [h]
    rw [e1, e2]
    refine (Tryz.strconv_Atoi_ok s (by omega) v h w).mono ?_
    rintro e w' ⟨rfl, hw⟩
    refine ⟨_, rfl, rfl, ?_⟩
    rcases hw with rfl | ⟨t, rfl⟩
    · exact Below.refl _ _
    · exact bytesWorld_below _ _
  · have e1 : atoiN s = 0 := by unfold atoiN; rw [h]; rfl
    have e2 : atoiErr s = true := by unfold atoiErr; rw [h]; rfl
    rw [e1, e2]
    obtain ⟨tp, p, hv⟩ := hT.syn
    refine (Tryz.strconv_Atoi_syntax_var s hs h tp p w hv).mono ?_
    rintro e w' ⟨n, rfl, _, _, hb⟩
    exact ⟨_, rfl, ⟨_, rfl⟩, hb⟩
  · have e1 : atoiN s = Lib.atoiSat s.data.toList := by unfold atoiN; rw [h]
    have e2 : atoiErr s = true := by unfold atoiErr; rw [h]
    rw [e1, e2]
    obtain ⟨tp, p, hv⟩ := hT.rng
    refine (Tryz.strconv_Atoi_range_var s hs h tp p w hv).mono ?_
    rintro e w' ⟨n, rfl, _, _, hb⟩
    exact ⟨_, rfl, ⟨_, rfl⟩, hb⟩
theorem atoi_ok {s : ByteArray} (h : atoiErr s = false) : Lib.atoiAll s.data.toList = .ok (atoiN s) := by
  unfold atoiErr at h
  unfold atoiN
  rcases atoi_three s with ⟨v, h2⟩ | h2 | h2
  · rw [h2]
  · rw [h2] at h; cases h
  · rw [h2] at h; cases h
def itoaS (n : Int) : ByteArray := ⟨(Lib.itoa n).toArray⟩
theorem itoa_calls (n : Int) (h0 : -9223372036854775808 ≤ n) (h1 : n ≤ 9223372036854775807) (w : World) (hT : Tabs w) :
    Calls Tryz.prog 16 #[.int .i64 n] w fun e w' => e = .returned (.string (itoaS n)) ∧ Below w.heap.size w w' := by
  refine (Tryz.strconv_Itoa n h0 h1 w hT.pow).mono ?_
  rintro e w' ⟨rfl, k, os, rfl⟩
  exact ⟨rfl, Lib.below_grow _ _ (Nat.le_refl _) _ _⟩
theorem pieceV_eq (s : ByteArray) : pieceV s = if atoiErr s = false ∧ (itoaS (atoiN s)).toList = s.toList then some (atoiN s) else none := by
  have e : ∀ b : ByteArray, b.toList = b.data.toList := ByteArray.toList_eq
  unfold pieceV atoiErr atoiN itoaS
  rw [e, e]
  rcases atoi_three s with ⟨v, h2⟩ | h2 | h2
  · rw [h2]; simp
  · rw [h2]; simp [Lib.atoiAll]
  · rw [h2]; simp
end Go.Proofs.YtbikimkmkchkhaaGreatDoor.PAll
end
section
/- version.Parse, walked. -/
namespace Go.Proofs.YtbikimkmkchkhaaGreatDoor.PAll
open Go.RowKit Go.Lib Go.Shelf Go.Proofs.YtbikimkmkchkhaaGreatDoor Go.Proofs.YtbikimkmkchkhaaGreatDoorW.PrintWords Go.Proofs.YtbikimkmkchkhaaGreatDoorW.PrintLast Go.Proofs.YtbikimkmkchkhaaGreatDoorW.PrintMore
attribute [local go_sem] Oper.semAt_some
set_option linter.unusedVariables false
set_option linter.unusedSimpArgs false

theorem cut_calls (s : ByteArray) (w : World) (hs : s.size < 4294967281) (hT : Tabs w) :
    Calls Tryz.prog 13 #[.string s, .string ⟨#[45]⟩] w fun e w' => e = .returned (.tuple #[.string (frontOf s), .string (tailOf s), .bool (isCut s)]) ∧ ∃ n, w' = w.drewN n := by
  obtain ⟨m, hm⟩ := hT.len
  exact Tryz.strings_Cut s ⟨#[45]⟩ m w hs hm
theorem partsOf_length (f : ByteArray) : (partsOf f).length = Lib.countB f dot + 1 := Lib.splitB_all dot (by decide) 0 _ f rfl
theorem splitB_sizes (sep : ByteArray) : ∀ (k : Nat) (s x : ByteArray), x ∈ Lib.splitB sep 0 k s → x.size ≤ s.size
  | 0, s, x, h => by
    rw [Lib.splitB_zero, List.mem_singleton] at h
    rw [h]; exact Nat.le_refl _
  | k + 1, s, x, h => by
    unfold Lib.splitB at h
    split at h
    · rw [List.mem_singleton] at h
      rw [h]; exact Nat.le_refl _
    · rcases List.mem_cons.1 h with rfl | h
      · rw [ByteArray.size_extract]; omega
      · have := splitB_sizes sep k _ x h
        rw [ByteArray.size_extract] at this
        omega
theorem countB_le (f : ByteArray) : Lib.countB f dot ≤ f.size := Lib.countB_le dot (by decide) _ f (Nat.le_refl _)
theorem split_calls (f : ByteArray) (w : World) (hs : f.size < 4294967281) (hT : Tabs w) :
    Calls Tryz.prog 14 #[.string f, .string ⟨#[46]⟩] w fun e w' => e = .returned (.slice (some ⟨w.heap.size, 0, none⟩) (partsOf f).length (partsOf f).length) ∧ w' = w.alloc (.cells ((partsOf f).map Value.string).toArray 9) := by
  obtain ⟨m, hm⟩ := hT.len
  have := Tryz.strings_Split f ⟨#[46]⟩ m w hs hm (by decide)
  rw [show (partsOf f).length = Lib.countB f dot + 1 from partsOf_length f]
  exact this
theorem cut_len (l : List UInt8) (c : UInt8) : (Lib.cut l [c]).1.length ≤ l.length ∧ (Lib.cut l [c]).2.1.length ≤ l.length := by
  unfold Lib.cut
  split
  · exact ⟨by rw [List.length_take]; omega, by rw [List.length_drop]; omega⟩
  · exact ⟨Nat.le_refl _, by simp⟩
theorem frontOf_size (s : ByteArray) (hs : s.size < 4294967281) : (frontOf s).size < 4294967281 := by
  have h := (cut_len s.data.toList 45).1
  have e : s.data.toList.length = s.size := Array.length_toList
  show (Lib.cut s.data.toList [45]).1.toArray.size < _
  rw [List.size_toArray]; omega
theorem tailOf_size (s : ByteArray) (hs : s.size < 4294967281) : (tailOf s).size < 4294967281 := by
  have h := (cut_len s.data.toList 45).2
  have e : s.data.toList.length = s.size := Array.length_toList
  show (Lib.cut s.data.toList [45]).2.1.toArray.size < _
  rw [List.size_toArray]; omega
theorem owns_below {w W : World} (hb : Below w.heap.size w W) {base : Nat} {e : TypeId} {size n : Nat} {v : Value} {xs : List Value} (h : w.ownsRow base e size v n xs) : W.ownsRow base e size v n xs := by
  obtain ⟨h1, h2⟩ := h
  refine ⟨h1, ?_⟩
  rcases h2 with h2 | ⟨g, cap, cur, hv, hg, hh, r⟩
  · exact Or.inl h2
  · exact Or.inr ⟨g, cap, cur, hv, hg, kb_belows hb hh, r⟩
theorem owns_base {w : World} {base base' : Nat} {e : TypeId} {size n : Nat} {v : Value} {xs : List Value} (h : w.ownsRow base e size v n xs) (hb : base' ≤ base) : w.ownsRow base' e size v n xs := by
  obtain ⟨h1, h2⟩ := h
  refine ⟨h1, ?_⟩
  rcases h2 with h2 | ⟨g, cap, cur, hv, hg, hh, r⟩
  · exact Or.inl h2
  · exact Or.inr ⟨g, cap, cur, hv, by omega, hh, r⟩
theorem owns_set {w : World} {base : Nat} {e : TypeId} {size n : Nat} {v : Value} {xs : List Value} (h : w.ownsRow base e size v n xs) {b : Nat} (hb : b < base) (i : Nat) (x : Value) : (w.setCell ⟨b, i, none⟩ x).ownsRow base e size v n xs := by
  obtain ⟨h1, h2⟩ := h
  refine ⟨h1, ?_⟩
  rcases h2 with h2 | ⟨g, cap, cur, hv, hg, hh, r⟩
  · exact Or.inl h2
  · exact Or.inr ⟨g, cap, cur, hv, hg, kb_set_other hh (by omega) i x, r⟩
theorem own_ge {w : World} {base : Nat} {e : TypeId} {size n : Nat} {v : Value} {xs : List Value} (h : w.ownsRow base e size v n xs) {k : Nat} (hk : v.ownBlock = some k) : base ≤ k := by
  obtain ⟨_, h2⟩ := h
  rcases h2 with ⟨rfl, _⟩ | ⟨g, cap, cur, rfl, hg, hh, r⟩
  · cases hk
  · have : g = k := by simpa [Value.ownBlock] using hk
    omega
/-- Where the loop of Parse stands. -/
structure PSt (w : World) (u : ByteArray) (ps : List ByteArray) (k : Nat) (vs : List Int) (v : Value) (W : World) : Prop where
  below : Below w.heap.size w W
  b0 : W.heap[w.heap.size]? = some (.cells #[.slice none 0 0, .string ⟨#[]⟩] 24 (0, 0))
  b1 : W.heap[w.heap.size + 1]? = some (.cells #[v, .string u] 24 (0, 0))
  b2 : W.heap[w.heap.size + 2]? = some (.cells (ps.map Value.string).toArray 9 (0, 0))
  own : W.ownsRow (w.heap.size + 3) 3 1 v vs.length (vs.map (Value.int .i64))
  size : w.heap.size + 3 ≤ W.heap.size
  got : piecesV (ps.take k) = some vs
theorem PSt.step {w : World} {u : ByteArray} {ps : List ByteArray} {k : Nat} {vs : List Int} {v : Value} {W W' : World} (h : PSt w u ps k vs v W) (hb : Below W.heap.size W W') : PSt w u ps k vs v W' where
  below := h.below.trans (hb.mono h.below.size)
  b0 := kb_belows hb h.b0
  b1 := kb_belows hb h.b1
  b2 := kb_belows hb h.b2
  own := owns_below hb h.own
  size := Nat.le_trans h.size hb.size
  got := h.got
theorem PSt.next {w : World} {u : ByteArray} {ps : List ByteArray} {k : Nat} {vs : List Int} {v : Value} {W W' : World} (h : PSt w u ps k vs v W) (hk : k < ps.length) {n : Int} (hn : pieceV ps[k] = some n) {v' : Value}
    (ho : W'.ownsRow (w.heap.size + 3) 3 1 v' (vs.length + 1) (vs.map (Value.int .i64) ++ [.int .i64 n])) (hg : W.grownBy W' v.ownBlock) : PSt w u ps (k + 1) (vs ++ [n]) v' (W'.setCell ⟨w.heap.size + 1, 0, none⟩ v') := by
  have hr : ∀ g, v.ownBlock = some g → w.heap.size + 3 ≤ g := fun g hg => own_ge h.own hg
  have ne : ∀ g, g < w.heap.size + 3 → some g ≠ v.ownBlock := fun g hl e => by have := hr g e.symm; omega
  have b1 := kb_grown hg h.b1 (ne _ (by omega))
  refine ⟨(h.below.grown hg h.below.size (fun k hk => by have := hr k hk; omega)).setCell (p := ⟨_, 0, none⟩) (by show w.heap.size ≤ w.heap.size + 1; omega) _, kb_set_other (kb_grown hg h.b0 (ne _ (by omega))) (by omega) _ _, ?_, kb_set_other (kb_grown hg h.b2 (ne _ (by omega))) (by omega) _ _, ?_, ?_, ?_⟩
  · have := kb_set b1 0 v'
    simpa using this
  · rw [List.length_append, List.map_append]
    exact owns_set ho (by omega) _ _
  · have := hg.size; have := h.size
    simp [World.setCell]; omega
  · rw [piecesV_snoc hk h.got, hn]; rfl
theorem parse_none {s f u : ByteArray} {b : Bool} {ps : List ByteArray} (hf : frontOf s = f) (hps : partsOf f = ps) (h : piecesV ps = none) : parseV s = badP := by
  unfold parseV
  rw [hf, hps, h]
theorem parse_some {s f u : ByteArray} {b : Bool} {ps : List ByteArray} {vs : List Int} (hf : frontOf s = f) (hu : tailOf s = u) (hb : isCut s = b) (hps : partsOf f = ps) (h : piecesV ps = some vs) : parseV s = if (b && u.toList.isEmpty) || badV vs u then badP else (vs, u, 0) := by
  unfold parseV
  rw [hf, hps, h, hu, hb]
theorem cell_new_one (w : World) (v : Value) (t : TypeId) : ∀ j u, [v][j]? = some u → (w.alloc (.cells #[v] t)).cell? ((⟨w.heap.size, 0, none⟩ : Addr).add j) = some u := by
  intro j u hu
  cases j with
  | zero =>
    obtain rfl : v = u := by simpa using hu
    show (w.alloc (.cells #[v] t)).cell? ⟨w.heap.size, 0, none⟩ = _
    rw [kb_cell_of (kb_new w _)]; rfl
  | succ j => simp at hu
theorem info3_ : (Tryz.prog.info? 3).map (fun i => (i.zero, i.size, i.bytes)) = some (some (.int .i64 0), 1, 8) := by kernel_rfl
set_option maxRecDepth 100000 in
set_option maxHeartbeats 4000000 in
theorem parse_calls (s : ByteArray) (w : World) (hs : s.size < 4294967281) (hT : Tabs w) :
    Calls Tryz.prog 4 #[.string s] w fun e w' => ∃ v0_ : Value, e = .returned (.tuple #[.agg #[v0_, .string (parseV s).2.1], .int .i64 (parseV s).2.2]) ∧ Kd.R (Kd.int .i64) 3 w' w.heap.size (fun _ => True) v0_ (parseV s).1 ∧ Below w.heap.size w w' := by
  have hB1 := (Below.refl w.heap.size w).alloc (Nat.le_refl _) (.cells #[.slice none 0 0, .string ⟨#[]⟩] 24)
  have hcut := cut_calls s _ hs (hT.below hB1)
  obtain ⟨f, hf⟩ : ∃ f, frontOf s = f := ⟨_, rfl⟩
  obtain ⟨u, hu⟩ : ∃ u, tailOf s = u := ⟨_, rfl⟩
  obtain ⟨b, hb⟩ : ∃ b, isCut s = b := ⟨_, rfl⟩
  rw [hf, hu, hb] at hcut
  have hfs : f.size < 4294967281 := by rw [← hf]; exact frontOf_size s hs
  have hus : u.size < 4294967281 := by rw [← hu]; exact tailOf_size s hs
  have HT := Aside0.mk hT; have HF := Aside0.mk hf; have HU := Aside0.mk hu; have HB := Aside0.mk hb; have H1 := Aside0.mk hB1
  clear hT hf hu hb hB1
  go_enter Tryz.func4, Tryz.ntmps4
  go_wp2_with fail
  refine hcut.mono ?_
  clear hcut
  rintro e w1 ⟨rfl, n1, rfl⟩
  go_wp2_with fail
  have hB2 : Below w.heap.size w (((w.alloc (.cells #[.slice none 0 0, .string ⟨#[]⟩] 24)).drewN n1).alloc (.cells #[.slice none 0 0, .string u] 24)) := (pw_below_drewN H1.out n1).alloc (by simp) _
  have k0 : (((w.alloc (.cells #[.slice none 0 0, .string ⟨#[]⟩] 24)).drewN n1).alloc (.cells #[.slice none 0 0, .string u] 24)).heap[w.heap.size]? = some (.cells #[.slice none 0 0, .string ⟨#[]⟩] 24 (0, 0)) := kb_alloc (kb_drewN (kb_new _ _) _) _
  have k1 : (((w.alloc (.cells #[.slice none 0 0, .string ⟨#[]⟩] 24)).drewN n1).alloc (.cells #[.slice none 0 0, .string u] 24)).heap[w.heap.size + 1]? = some (.cells #[.slice none 0 0, .string u] 24 (0, 0)) := by
    have := kb_new ((w.alloc (.cells #[.slice none 0 0, .string ⟨#[]⟩] 24)).drewN n1) (.cells #[.slice none 0 0, .string u] 24)
    simpa using this
  have z2 : (((w.alloc (.cells #[.slice none 0 0, .string ⟨#[]⟩] 24)).drewN n1).alloc (.cells #[.slice none 0 0, .string u] 24)).heap.size = w.heap.size + 2 := by simp
  generalize ((w.alloc (.cells #[.slice none 0 0, .string ⟨#[]⟩] 24)).drewN n1).alloc (.cells #[.slice none 0 0, .string u] 24) = W2 at *
  refine (split_calls f W2 hfs (HT.out.below hB2)).mono ?_
  rintro e w1 ⟨rfl, rfl⟩
  obtain ⟨ps, hps⟩ : ∃ ps, partsOf f = ps := ⟨_, rfl⟩
  have hpl : ps.length ≤ 4294967281 := by
    rw [← hps, partsOf_length]
    have := countB_le f
    omega
  have hpe : ∀ x ∈ ps, x.size < 4294967281 := fun x hx => by
    have := splitB_sizes dot _ f x (by rw [← hps] at hx; exact hx)
    omega
  rw [hps]
  have HPS := Aside0.mk hps
  clear hps
  have k0 := kb_alloc k0 (.cells (ps.map Value.string).toArray 9)
  have k1 := kb_alloc k1 (.cells (ps.map Value.string).toArray 9)
  have k2 := kb_new W2 (.cells (ps.map Value.string).toArray 9)
  have hB3 := hB2.alloc (by omega) (.cells (ps.map Value.string).toArray 9)
  have z3 : (W2.alloc (.cells (ps.map Value.string).toArray 9)).heap.size = w.heap.size + 3 := by simp [z2]
  rw [z2] at k2 ⊢
  generalize W2.alloc (.cells (ps.map Value.string).toArray 9) = W3 at *
  have K0 := Aside0.mk k0; have K1 := Aside0.mk k1; have K2 := Aside0.mk k2; have HB3 := Aside0.mk hB3; have Z3 := Aside0.mk z3
  clear k0 k1 k2 hB2 hB3 z2 z3 H1
  have P0 : PSt w u ps 0 [] (.slice none 0 0) W3 := ⟨HB3.out, K0.out, K1.out, K2.out, World.ownsRow_nil _ _ _ _, by have := Z3.out; omega, rfl⟩
  clear K0 K1 K2 HB3 Z3
  go_wp2
  go_loopw [23] (fun i W => ∃ (k : Nat) (vs : List Int) (v : Value), i = .int .i64 (k : Int) ∧ k ≤ ps.length ∧ PSt w u ps k vs v W) (fun i _ => ps.length - (RowKit.intOf i).toNat)
  case atStart => exact ⟨0, [], _, rfl, Nat.zero_le _, P0⟩
  case round =>
    clear P0
    obtain ⟨k, vs, v, rfl, hk, hP⟩ := hrel
    by_cases hlt : k < ps.length
    · have t1 : decide ((k : Int) < (ps.length : Int)) = true := decide_eq_true (by omega)
      have p0 : (0 : Int) ≤ (k : Int) := by omega
      have c2 : wr.cell? ⟨w.heap.size + 2, k, none⟩ = some (.string ps[k]) := by rw [kb_cell_of hP.b2 k]; simp [hlt]
      obtain ⟨x, hx⟩ : ∃ x, ps[k] = x := ⟨_, rfl⟩
      have hxs : x.size < 4294967281 := by rw [← hx]; exact hpe _ (List.getElem_mem hlt)
      rw [hx] at c2
      have HX := Aside0.mk hx
      clear hx
      have hat := atoi_calls x wr (by omega) (HT.out.below hP.below)
      cases hae : atoiErr x with
      | true =>
        simp only [hae, if_true] at hat
        have hpv : pieceV x = none := by rw [pieceV_eq, if_neg (by rw [hae]; simp)]
        have hbad := parse_none (u := u) (b := b) HF.out HPS.out (piecesV_stop hlt (by rw [HX.out]; exact hpv))
        have HV := Aside0.mk hbad
        clear hbad hpv hae
        have HAT := Aside0.mk hat
        clear hat
        go_wp2_with fail
        refine HAT.out.mono ?_
        rintro e w1 ⟨ev, rfl, ⟨p, rfl⟩, hb1⟩
        have hP1 := hP.step hb1
        have c0 : w1.cell? ⟨w.heap.size, 0, none⟩ = some (.slice none 0 0) := by rw [kb_cell_of hP1.b0 0]; rfl
        have c1 : w1.cell? ⟨w.heap.size, 1, none⟩ = some (.string ⟨#[]⟩) := by rw [kb_cell_of hP1.b0 1]; rfl
        have f0 : w1.frozen? ⟨w.heap.size, 0, none⟩ = false := kb_free_of hP1.b0 0
        have f1 : w1.frozen? ⟨w.heap.size, 1, none⟩ = false := kb_free_of hP1.b0 1
        clear hb1
        go_wp2
        have hb2 : ((w1.setCell ⟨w.heap.size, 0, none⟩ (.slice none 0 0)).setCell ⟨w.heap.size, 1, none⟩ (.string ⟨#[]⟩)).heap[w.heap.size]? = some (.cells #[.slice none 0 0, .string ⟨#[]⟩] 24 (0, 0)) := by
          have := kb_set (kb_set hP1.b0 0 (.slice none 0 0)) 1 (.string ⟨#[]⟩)
          simpa using this
        refine bodyPost_ret (results_ct rfl _ _ w.heap.size 24 #[.slice none 0 0, .string ⟨#[]⟩] (0, 0) _ rfl hb2 Tryz.underlying24 rfl (by kernel_rfl)) rfl ?_
        rw [HV.out]
        refine ⟨_, rfl, Kd.R_of_own (World.ownsRow_nil _ _ _ _) (fun _ _ => trivial), ?_⟩
        exact (hP1.below.setCell (p := ⟨_, 0, none⟩) (Nat.le_refl _) _).setCell (p := ⟨_, 1, none⟩) (Nat.le_refl _) _
      | false =>
        simp only [hae, Bool.false_eq_true, if_false] at hat
        have hr := atoi_range (atoi_ok hae)
        obtain ⟨n, hn⟩ : ∃ n, atoiN x = n := ⟨_, rfl⟩
        rw [hn] at hat hr
        have HAT := Aside0.mk hat
        clear hat
        by_cases heq : (itoaS n).toList = x.toList
        · have hpv : pieceV ps[k] = some n := by rw [HX.out, pieceV_eq, hn, if_pos ⟨hae, heq⟩]
          have HV := Aside0.mk hpv
          have q1 : ((itoaS n).toList != x.toList) = false := by simp [heq]
          have q2 : ((itoaS n).toList == x.toList) = true := by simp [heq]
          clear hpv hn hae heq
          obtain ⟨y, hy⟩ : ∃ y, itoaS n = y := ⟨_, rfl⟩
          have hit := fun W h => itoa_calls n hr.1 hr.2 W h
          rw [hy] at hit q1 q2
          clear hy
          have HIT := Aside0.mk hit
          clear hit
          obtain ⟨i0, hi, hz0, hz1, hz2⟩ := info_parts info3_
          go_wp2_with fail
          refine HAT.out.mono ?_
          rintro e w1 ⟨ev, rfl, rfl, hb1⟩
          have hP1 := hP.step hb1
          clear hb1
          go_wp2_with fail
          refine (HIT.out _ (HT.out.below hP1.below)).mono ?_
          rintro e w2 ⟨rfl, hb2⟩
          have hP2 := hP1.step hb2
          clear hb2 hP1
          have c0 : w2.cell? ⟨w.heap.size + 1, 0, none⟩ = some v := by rw [kb_cell_of hP2.b1 0]; rfl
          have fz : w2.frozen? ⟨w.heap.size + 1, 0, none⟩ = false := kb_free_of hP2.b1 0
          have hvl := piecesV_len hP2.got
          have hvl2 : vs.length = k := by rw [hvl, List.length_take]; omega
          have HVL := Aside0.mk hvl2
          clear hvl hvl2
          go_wp2_with (at_builtin; refine wpList_append_lies _ (by rfl) _ _ 22 (by rfl) (w.heap.size + 3) 3 i0 (.int .i64 0) 1 8 Tryz.underlying22 hi hz0 hz1 hz2 rfl (by decide) v vs.length (vs.map (Value.int .i64)) (by rfl) (hP2.own.alloc _) ⟨w2.heap.size, 0, none⟩ 1 1 [.int .i64 n] (by rfl) rfl (cell_new_one w2 _ _) (by simp [Value.oneCell']) (by omega) (by have := HVL.out; simp only [maxLen]; omega) (by have := HVL.out; omega) (by have := hP2.size; simp; omega) (w2.heap.size + 1) (by simp) ?_; intro g cap w3 ho hg _ _; have hPa := hP2.step ((Below.refl w2.heap.size w2).alloc (Nat.le_refl _) (.cells #[.int .i64 n] 3)); have kb := kb_grown hg hPa.b1 (fun e => by have := own_ge hPa.own e.symm; omega); have c3 : w3.cell? ⟨w.heap.size + 1, 0, none⟩ = some v := (by rw [kb_cell_of kb 0]; rfl); have f3 : w3.frozen? ⟨w.heap.size + 1, 0, none⟩ = false := kb_free_of kb 0; have hPn := hPa.next hlt HV.out ho hg; clear hPa kb ho hg)
          go_roundw
          case rel => exact ⟨k + 1, vs ++ [n], _, by go_num, by omega, hPn⟩
          case measure => simp [RowKit.intOf]; omega
        · have hpv : pieceV x = none := by rw [pieceV_eq, hn, if_neg (fun h => heq h.2)]
          have hbad := parse_none (u := u) (b := b) HF.out HPS.out (piecesV_stop hlt (by rw [HX.out]; exact hpv))
          have HV := Aside0.mk hbad
          have q1 : ((itoaS n).toList != x.toList) = true := by simp [heq]
          have q2 : ((itoaS n).toList == x.toList) = false := by simp [heq]
          clear hbad hpv hn hae heq
          obtain ⟨y, hy⟩ : ∃ y, itoaS n = y := ⟨_, rfl⟩
          have hit := fun W h => itoa_calls n hr.1 hr.2 W h
          rw [hy] at hit q1 q2
          clear hy
          have HIT := Aside0.mk hit
          clear hit
          go_wp2_with fail
          refine HAT.out.mono ?_
          rintro e w2 ⟨ev, rfl, rfl, hb2⟩
          have hP2 := hP.step hb2
          clear hb2
          go_wp2_with fail
          refine (HIT.out _ (HT.out.below hP2.below)).mono ?_
          rintro e w1 ⟨rfl, hb1⟩
          have hP1 := hP2.step hb1
          have c0 : w1.cell? ⟨w.heap.size, 0, none⟩ = some (.slice none 0 0) := by rw [kb_cell_of hP1.b0 0]; rfl
          have c1 : w1.cell? ⟨w.heap.size, 1, none⟩ = some (.string ⟨#[]⟩) := by rw [kb_cell_of hP1.b0 1]; rfl
          have f0 : w1.frozen? ⟨w.heap.size, 0, none⟩ = false := kb_free_of hP1.b0 0
          have f1 : w1.frozen? ⟨w.heap.size, 1, none⟩ = false := kb_free_of hP1.b0 1
          clear hb1
          go_wp2
          have hb2 : ((w1.setCell ⟨w.heap.size, 0, none⟩ (.slice none 0 0)).setCell ⟨w.heap.size, 1, none⟩ (.string ⟨#[]⟩)).heap[w.heap.size]? = some (.cells #[.slice none 0 0, .string ⟨#[]⟩] 24 (0, 0)) := by
            have := kb_set (kb_set hP1.b0 0 (.slice none 0 0)) 1 (.string ⟨#[]⟩)
            simpa using this
          refine bodyPost_ret (results_ct rfl _ _ w.heap.size 24 #[.slice none 0 0, .string ⟨#[]⟩] (0, 0) _ rfl hb2 Tryz.underlying24 rfl (by kernel_rfl)) rfl ?_
          rw [HV.out]
          refine ⟨_, rfl, Kd.R_of_own (World.ownsRow_nil _ _ _ _) (fun _ _ => trivial), ?_⟩
          exact (hP1.below.setCell (p := ⟨_, 0, none⟩) (Nat.le_refl _) _).setCell (p := ⟨_, 1, none⟩) (Nat.le_refl _) _
    · have hkl : k = ps.length := by omega
      have t1 : decide ((k : Int) < (ps.length : Int)) = false := decide_eq_false (by omega)
      have hps : piecesV ps = some vs := by rw [← hP.got, hkl, List.take_length]
      have hval := parse_some HF.out HU.out HB.out HPS.out hps
      have hvl := piecesV_len hps
      have hvl2 : vs.length ≤ 140737488355328 := by omega
      have hC : Kd.R (Kd.int .i64) 3 wr w.heap.size (fun _ => True) v vs := Kd.R_of_own (owns_base hP.own (by omega)) (fun _ _ => trivial)
      obtain ⟨A, c, rfl, hle, hCC⟩ := Kd.R_reads hC
      have hchk := check_calls A c vs u wr hCC hvl2 (by omega)
      have d0' : wr.cell? ⟨w.heap.size + 1, 0, none⟩ = some (.slice A vs.length c) := by rw [kb_cell_of hP.b1 0]; rfl
      have d1' : wr.cell? ⟨w.heap.size + 1, 1, none⟩ = some (.string u) := by rw [kb_cell_of hP.b1 1]; rfl
      cases b with
      | true =>
        by_cases hu0 : u.toList = []
        · obtain rfl := empty_of hu0
          have HV : Aside0 (parseV s = badP) := ⟨by rw [hval, if_pos]; rw [hu0]; rfl⟩
          clear hchk hval hvl hvl2 hps hC hCC hu0
          have c0 : wr.cell? ⟨w.heap.size, 0, none⟩ = some (.slice none 0 0) := by rw [kb_cell_of hP.b0 0]; rfl
          have c1 : wr.cell? ⟨w.heap.size, 1, none⟩ = some (.string ⟨#[]⟩) := by rw [kb_cell_of hP.b0 1]; rfl
          have f0 : wr.frozen? ⟨w.heap.size, 0, none⟩ = false := kb_free_of hP.b0 0
          have f1 : wr.frozen? ⟨w.heap.size, 1, none⟩ = false := kb_free_of hP.b0 1
          go_wp2
          have hb2 : ((wr.setCell ⟨w.heap.size, 0, none⟩ (.slice none 0 0)).setCell ⟨w.heap.size, 1, none⟩ (.string ⟨#[]⟩)).heap[w.heap.size]? = some (.cells #[.slice none 0 0, .string ⟨#[]⟩] 24 (0, 0)) := by
            have := kb_set (kb_set hP.b0 0 (.slice none 0 0)) 1 (.string ⟨#[]⟩)
            simpa using this
          refine bodyPost_ret (results_ct rfl _ _ w.heap.size 24 #[.slice none 0 0, .string ⟨#[]⟩] (0, 0) _ rfl hb2 Tryz.underlying24 rfl (by kernel_rfl)) rfl ?_
          rw [HV.out]
          refine ⟨_, rfl, Kd.R_of_own (World.ownsRow_nil _ _ _ _) (fun _ _ => trivial), ?_⟩
          exact (hP.below.setCell (p := ⟨_, 0, none⟩) (Nat.le_refl _) _).setCell (p := ⟨_, 1, none⟩) (Nat.le_refl _) _
        · have e1 : u.toList.isEmpty = false := by simpa using hu0
          have hnb : (true && u.toList.isEmpty) = false := by rw [e1]; rfl
          cases hbv : badV vs u with
          | true =>
            have HV : Aside0 (parseV s = badP) := ⟨by rw [hval, hbv, Bool.or_true, if_pos rfl]⟩
            have hk0 : chkV vs u = 170 := by unfold chkV; rw [hbv, if_pos rfl]
            rw [hk0] at hchk
            have HK := Aside0.mk hchk
            clear hchk hval hvl hvl2 hps hC hCC hk0 hbv
            go_wp2_with fail
            refine (HK.out.mono ?_)
            rintro e w1 ⟨rfl, hb1⟩
            have hP1 := hP.step hb1
            clear hb1
            have c0 : w1.cell? ⟨w.heap.size, 0, none⟩ = some (.slice none 0 0) := by rw [kb_cell_of hP1.b0 0]; rfl
            have c1 : w1.cell? ⟨w.heap.size, 1, none⟩ = some (.string ⟨#[]⟩) := by rw [kb_cell_of hP1.b0 1]; rfl
            have f0 : w1.frozen? ⟨w.heap.size, 0, none⟩ = false := kb_free_of hP1.b0 0
            have f1 : w1.frozen? ⟨w.heap.size, 1, none⟩ = false := kb_free_of hP1.b0 1
            go_wp2
            have hb2 : ((w1.setCell ⟨w.heap.size, 0, none⟩ (.slice none 0 0)).setCell ⟨w.heap.size, 1, none⟩ (.string ⟨#[]⟩)).heap[w.heap.size]? = some (.cells #[.slice none 0 0, .string ⟨#[]⟩] 24 (0, 0)) := by
              have := kb_set (kb_set hP1.b0 0 (.slice none 0 0)) 1 (.string ⟨#[]⟩)
              simpa using this
            refine bodyPost_ret (results_ct rfl _ _ w.heap.size 24 #[.slice none 0 0, .string ⟨#[]⟩] (0, 0) _ rfl hb2 Tryz.underlying24 rfl (by kernel_rfl)) rfl ?_
            rw [HV.out]
            refine ⟨_, rfl, Kd.R_of_own (World.ownsRow_nil _ _ _ _) (fun _ _ => trivial), ?_⟩
            exact (hP1.below.setCell (p := ⟨_, 0, none⟩) (Nat.le_refl _) _).setCell (p := ⟨_, 1, none⟩) (Nat.le_refl _) _
          | false =>
            have HV : Aside0 (parseV s = (vs, u, 0)) := ⟨by rw [hval, hbv, hnb, Bool.or_false, if_neg (by simp)]⟩
            have hk0 : chkV vs u = 0 := by unfold chkV; rw [hbv, if_neg (by simp)]
            rw [hk0] at hchk
            have HK := Aside0.mk hchk
            clear hchk hval hvl hvl2 hps hC hCC hk0 hbv hnb
            go_wp2_with fail
            refine (HK.out.mono ?_)
            rintro e w1 ⟨rfl, hb1⟩
            have hP1 := hP.step hb1
            clear hb1
            have c0 : w1.cell? ⟨w.heap.size, 0, none⟩ = some (.slice none 0 0) := by rw [kb_cell_of hP1.b0 0]; rfl
            have c1 : w1.cell? ⟨w.heap.size, 1, none⟩ = some (.string ⟨#[]⟩) := by rw [kb_cell_of hP1.b0 1]; rfl
            have d0 : w1.cell? ⟨w.heap.size + 1, 0, none⟩ = some (.slice A vs.length c) := by rw [kb_cell_of hP1.b1 0]; rfl
            have d1 : w1.cell? ⟨w.heap.size + 1, 1, none⟩ = some (.string u) := by rw [kb_cell_of hP1.b1 1]; rfl
            have f0 : w1.frozen? ⟨w.heap.size, 0, none⟩ = false := kb_free_of hP1.b0 0
            have f1 : w1.frozen? ⟨w.heap.size, 1, none⟩ = false := kb_free_of hP1.b0 1
            go_wp2
            have hb2 : ((w1.setCell ⟨w.heap.size, 0, none⟩ (.slice A vs.length c)).setCell ⟨w.heap.size, 1, none⟩ (.string u)).heap[w.heap.size]? = some (.cells #[.slice A vs.length c, .string u] 24 (0, 0)) := by
              have := kb_set (kb_set hP1.b0 0 (.slice A vs.length c)) 1 (.string u)
              simpa using this
            refine bodyPost_ret (results_ct rfl _ _ w.heap.size 24 #[.slice A vs.length c, .string u] (0, 0) _ rfl hb2 Tryz.underlying24 rfl (by kernel_rfl)) rfl ?_
            rw [HV.out]
            refine ⟨_, rfl, Kd.R_of_own (owns_base (owns_set (owns_set hP1.own (by omega) _ _) (by omega) _ _) (by omega)) (fun _ _ => trivial), ?_⟩
            exact (hP1.below.setCell (p := ⟨_, 0, none⟩) (Nat.le_refl _) _).setCell (p := ⟨_, 1, none⟩) (Nat.le_refl _) _
      | false =>
        have hnb : (false && u.toList.isEmpty) = false := rfl
        cases hbv : badV vs u with
        | true =>
          have HV : Aside0 (parseV s = badP) := ⟨by rw [hval, hbv, Bool.or_true, if_pos rfl]⟩
          have hk0 : chkV vs u = 170 := by unfold chkV; rw [hbv, if_pos rfl]
          rw [hk0] at hchk
          have HK := Aside0.mk hchk
          clear hchk hval hvl hvl2 hps hC hCC hk0 hbv
          go_wp2_with fail
          refine (HK.out.mono ?_)
          rintro e w1 ⟨rfl, hb1⟩
          have hP1 := hP.step hb1
          clear hb1
          have c0 : w1.cell? ⟨w.heap.size, 0, none⟩ = some (.slice none 0 0) := by rw [kb_cell_of hP1.b0 0]; rfl
          have c1 : w1.cell? ⟨w.heap.size, 1, none⟩ = some (.string ⟨#[]⟩) := by rw [kb_cell_of hP1.b0 1]; rfl
          have f0 : w1.frozen? ⟨w.heap.size, 0, none⟩ = false := kb_free_of hP1.b0 0
          have f1 : w1.frozen? ⟨w.heap.size, 1, none⟩ = false := kb_free_of hP1.b0 1
          go_wp2
          have hb2 : ((w1.setCell ⟨w.heap.size, 0, none⟩ (.slice none 0 0)).setCell ⟨w.heap.size, 1, none⟩ (.string ⟨#[]⟩)).heap[w.heap.size]? = some (.cells #[.slice none 0 0, .string ⟨#[]⟩] 24 (0, 0)) := by
            have := kb_set (kb_set hP1.b0 0 (.slice none 0 0)) 1 (.string ⟨#[]⟩)
            simpa using this
          refine bodyPost_ret (results_ct rfl _ _ w.heap.size 24 #[.slice none 0 0, .string ⟨#[]⟩] (0, 0) _ rfl hb2 Tryz.underlying24 rfl (by kernel_rfl)) rfl ?_
          rw [HV.out]
          refine ⟨_, rfl, Kd.R_of_own (World.ownsRow_nil _ _ _ _) (fun _ _ => trivial), ?_⟩
          exact (hP1.below.setCell (p := ⟨_, 0, none⟩) (Nat.le_refl _) _).setCell (p := ⟨_, 1, none⟩) (Nat.le_refl _) _
        | false =>
          have HV : Aside0 (parseV s = (vs, u, 0)) := ⟨by rw [hval, hbv, hnb, Bool.or_false, if_neg (by simp)]⟩
          have hk0 : chkV vs u = 0 := by unfold chkV; rw [hbv, if_neg (by simp)]
          rw [hk0] at hchk
          have HK := Aside0.mk hchk
          clear hchk hval hvl hvl2 hps hC hCC hk0 hbv hnb
          go_wp2_with fail
          refine (HK.out.mono ?_)
          rintro e w1 ⟨rfl, hb1⟩
          have hP1 := hP.step hb1
          clear hb1
          have c0 : w1.cell? ⟨w.heap.size, 0, none⟩ = some (.slice none 0 0) := by rw [kb_cell_of hP1.b0 0]; rfl
          have c1 : w1.cell? ⟨w.heap.size, 1, none⟩ = some (.string ⟨#[]⟩) := by rw [kb_cell_of hP1.b0 1]; rfl
          have d0 : w1.cell? ⟨w.heap.size + 1, 0, none⟩ = some (.slice A vs.length c) := by rw [kb_cell_of hP1.b1 0]; rfl
          have d1 : w1.cell? ⟨w.heap.size + 1, 1, none⟩ = some (.string u) := by rw [kb_cell_of hP1.b1 1]; rfl
          have f0 : w1.frozen? ⟨w.heap.size, 0, none⟩ = false := kb_free_of hP1.b0 0
          have f1 : w1.frozen? ⟨w.heap.size, 1, none⟩ = false := kb_free_of hP1.b0 1
          go_wp2
          have hb2 : ((w1.setCell ⟨w.heap.size, 0, none⟩ (.slice A vs.length c)).setCell ⟨w.heap.size, 1, none⟩ (.string u)).heap[w.heap.size]? = some (.cells #[.slice A vs.length c, .string u] 24 (0, 0)) := by
            have := kb_set (kb_set hP1.b0 0 (.slice A vs.length c)) 1 (.string u)
            simpa using this
          refine bodyPost_ret (results_ct rfl _ _ w.heap.size 24 #[.slice A vs.length c, .string u] (0, 0) _ rfl hb2 Tryz.underlying24 rfl (by kernel_rfl)) rfl ?_
          rw [HV.out]
          refine ⟨_, rfl, Kd.R_of_own (owns_base (owns_set (owns_set hP1.own (by omega) _ _) (by omega) _ _) (by omega)) (fun _ _ => trivial), ?_⟩
          exact (hP1.below.setCell (p := ⟨_, 0, none⟩) (Nat.le_refl _) _).setCell (p := ⟨_, 1, none⟩) (Nat.le_refl _) _
def version_Parse.f (a0 : ByteArray) : Option (List Int × ByteArray × Int) := if a0.size < 4294967281 then some (parseV a0) else none
theorem version_Parse.calls (a0 : ByteArray) (r1 : List Int) (r2 : ByteArray) (r3 : Int) (w : World) (h : version_Parse.f a0 = some (r1, r2, r3)) (hLD : Tabs w) :
    Calls Tryz.prog 4 #[.string a0] w fun e w' => ∃ v0_ : Value, e = .returned (.tuple #[.agg #[v0_, .string r2], .int .i64 r3]) ∧ Kd.R (Kd.int .i64) 3 w' w.heap.size (fun _ => True) v0_ r1 ∧ Below w.heap.size w w' := by
  unfold version_Parse.f at h
  split at h
  case isFalse => cases h
  rename_i hs
  have e := Option.some.inj h
  have := parse_calls a0 w hs hLD
  rw [e] at this
  exact this
def strconv_Itoa_16.f (a0 : Int) : Option ByteArray := if decide (-9223372036854775808 ≤ a0) && decide (a0 ≤ 9223372036854775807) then some (itoaS a0) else none
theorem strconv_Itoa_16.calls (a0 : Int) (r : ByteArray) (w : World) (h : strconv_Itoa_16.f a0 = some r) (hLD : Tabs w) :
    Calls Tryz.prog 16 #[.int .i64 a0] w fun e w' => e = .returned (.string r) ∧ Below w.heap.size w w' := by
  unfold strconv_Itoa_16.f at h
  split at h
  case isFalse => cases h
  rename_i hf
  obtain rfl := Option.some.inj h
  simp only [Bool.and_eq_true, decide_eq_true_eq] at hf
  exact itoa_calls a0 hf.1 hf.2 w hLD
end Go.Proofs.YtbikimkmkchkhaaGreatDoor.PAll
end
