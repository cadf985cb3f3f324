/- Texts of this claim, one behind the other: M, N, HParse, V3. -/
import Derived.Deep.RegionHeld3
import Derived.Test.YteblbggmchcijaaDoorMA3
import Derived.Test.YteblbggmchcijaaDoorMA13
import Derived.Test.YteblbggmchcijaaDoorMA11
import Derived.Test.YteblbggmchcijaaDoorMA14
import Derived.Lib.QuietBelow
import Derived.Laws.BitsLemmas
import Derived.Test.YteblbggmchcijaaDoorMA1
section
/- head.Parse in plain Lean; its fields. -/
namespace Go.Proofs.YteblbggmchcijaaDoor.PAll
open Go.RowKit Go.Lib Go.Proofs.YteblbggmchcijaaDoor Go.Proofs.YteblbggmchcijaaDoorW.PrintWords Go.Proofs.YteblbggmchcijaaDoorW.PrintLast Go.Proofs.YteblbggmchcijaaDoorW.PrintMore
attribute [local go_sem] Oper.semAt_some
set_option linter.unusedVariables false
set_option linter.unusedSimpArgs false

abbrev Six := ByteArray × ByteArray × Int × Int × Int × Int
def sixV (p : Six) : Value := .tuple #[.agg #[.string p.1, .string p.2.1, .int .i64 p.2.2.1, .int .i64 p.2.2.2.1, .int .u8 p.2.2.2.2.1], .int .i64 p.2.2.2.2.2]
def bad6 : Six := (⟨#[]⟩, ⟨#[]⟩, 0, 0, 0, 130)
/-- A field's bytes. -/
def fldL (l : List Int) (i : Nat) : List Int := (l.drop (fldAt i)).take (fldSz i)
def slash (p n : ByteArray) : ByteArray := if p.toList = [] then n else (p ++ ⟨#[47]⟩) ++ n
def kindOf (k : Int) : Int := if k = 0 then 48 else k
def parseP (l : List Int) : Six :=
  if ¬ l.length = 512 ∨ ¬ (strOfNums (fldL l 9)).toList = ustar.toList then bad6
  else if ¬ (octP (fldL l 1)).2 = 0 ∨ ¬ (octP (fldL l 4)).2 = 0 ∨ ¬ (octP (fldL l 6)).2 = 0 then bad6
  else if ¬ (octP (fldL l 6)).1 = sumTo l 512 ∨ 262144 < (octP (fldL l 4)).1 ∨ (textL (fldL l 0)).toList = [] then bad6
  else (slash (textL (fldL l 10)) (textL (fldL l 0)), textL (fldL l 8), bits .and .i64 (octP (fldL l 1)).1 4095, (octP (fldL l 4)).1, kindOf (rd l 156), 0)

theorem octGo_err : ∀ (l : List Int) (i : Nat) (n : Int), (octGo l i n).2 = 0 ∨ octGo l i n = (0, 130)
  | [], _, _ => Or.inr rfl
  | c :: l, i, n => by
    unfold octGo
    split
    · exact octGo_err l _ _
    · split
      · exact Or.inr rfl
      · exact Or.inl rfl
theorem octP_err (l : List Int) : (octP l).2 = 0 ∨ octP l = (0, 130) := octGo_err _ _ _
theorem fldL_length {l : List Int} (h : l.length = 512) (i : Nat) (hi : i < 11) : (fldL l i).length = fldSz i := by
  have := fld_le i hi
  unfold fldL
  rw [List.length_take, List.length_drop]; omega
theorem fldL_bytes {l : List Int} (h : AreBytes l) (i : Nat) : AreBytes (fldL l i) := fun x hx => h x (List.mem_of_mem_drop (List.mem_of_mem_take hx))
theorem fldL_C {w : World} {A : Addr} {l : List Int} (h : l.length = 512) (hC : Kd.C (Kd.int .u8) w (some A) l.length l) (i : Nat) (hi : i < 11) : Kd.C (Kd.int .u8) w (some (A.add (fldAt i))) (fldL l i).length (fldL l i) := by
  have hf := fld_le i hi
  have hr := ReadsInt.drop_ (c := 512) (Kd.reads_of_C (enc := Value.int .u8) (d := (0 : Int)) (h1 := fun _ => rfl) hC) (fldAt i) (by omega) (by omega)
  rw [if_neg (by omega)] at hr
  have hr2 := ReadsInt.take_ hr (fldSz i) (by omega)
  rw [fldL_length h i hi]
  exact Kd.C_of_reads (h1 := fun _ => rfl) hr2
/-- Octal of a field. -/
theorem octal_fld {w : World} {A : Addr} {l : List Int} (h : l.length = 512) (hC : Kd.C (Kd.int .u8) w (some A) l.length l) (hb : AreBytes l) (i : Nat) (hi : i < 11) (W : World) (hB : Below w.heap.size w W) :
    Calls Tryd.prog 18 #[.slice (some (A.add (fldAt i))) (fldSz i) (fldSz i)] W fun e w' => e = .returned (.tuple #[.int .i64 (octP (fldL l i)).1, .int .i64 (octP (fldL l i)).2]) ∧ Below W.heap.size W w' := by
  have hl := fldL_length h i hi
  have hs : fldSz i ≤ 500 := by have := fld_le i hi; omega
  have := octal_reads (some (A.add (fldAt i))) (fldSz i) (fldL l i) W (Kd.C_below (fldL_C h hC i hi) hB) (by omega) (by omega) (fldL_bytes hb i) (by omega)
  rwa [hl] at this
/-- The text of a field. -/
theorem text_fld {w : World} {A : Addr} {l : List Int} (h : l.length = 512) (hC : Kd.C (Kd.int .u8) w (some A) l.length l) (hb : AreBytes l) (i : Nat) (hi : i < 11) (W : World) (hB : Below w.heap.size w W) :
    Calls Tryd.prog 24 #[.slice (some (A.add (fldAt i))) (fldSz i) (fldSz i)] W fun e w' => e = .returned (.string (textL (fldL l i))) ∧ Below W.heap.size W w' := by
  have hl := fldL_length h i hi
  have hs : fldSz i ≤ 500 := by have := fld_le i hi; omega
  have := text_calls (A.add (fldAt i)) (fldSz i) (fldL l i) W (Kd.C_below (fldL_C h hC i hi) hB) (by omega) (fldL_bytes hb i) (by omega)
  rwa [hl] at this
/-- A header's block, written anew. -/
theorem blk5 {W : World} {g : Nat} {a b c d e a' b' c' d' e' : Value} (h : W.heap[g]? = some (.cells #[a, b, c, d, e] 25 (0, 0))) :
    (((((W.setCell ⟨g, 0, none⟩ a').setCell ⟨g, 1, none⟩ b').setCell ⟨g, 2, none⟩ c').setCell ⟨g, 3, none⟩ d').setCell ⟨g, 4, none⟩ e').heap[g]? = some (.cells #[a', b', c', d', e'] 25 (0, 0)) :=
  blk_put (cs := #[a', b', c', d', e]) (blk_put (cs := #[a', b', c', d, e]) (blk_put (cs := #[a', b', c, d, e]) (blk_put (cs := #[a', b, c, d, e]) (blk_put (cs := #[a, b, c, d, e]) h 0 _ rfl) 1 _ rfl) 2 _ rfl) 3 _ rfl) 4 _ rfl
theorem below5 {B : Nat} {w W : World} {g : Nat} (h : Below B w W) (hg : B ≤ g) (a' b' c' d' e' : Value) :
    Below B w (((((W.setCell ⟨g, 0, none⟩ a').setCell ⟨g, 1, none⟩ b').setCell ⟨g, 2, none⟩ c').setCell ⟨g, 3, none⟩ d').setCell ⟨g, 4, none⟩ e') :=
  ((((h.setCell (p := ⟨g, 0, none⟩) hg _).setCell (p := ⟨g, 1, none⟩) hg _).setCell (p := ⟨g, 2, none⟩) hg _).setCell (p := ⟨g, 3, none⟩) hg _).setCell (p := ⟨g, 4, none⟩) hg _
end Go.Proofs.YteblbggmchcijaaDoor.PAll
end
section
/- head.Parse: its walk. -/
namespace Go.Proofs.YteblbggmchcijaaDoor.PAll
open Go.RowKit Go.Lib Go.Proofs.YteblbggmchcijaaDoor Go.Proofs.YteblbggmchcijaaDoorW.PrintWords Go.Proofs.YteblbggmchcijaaDoorW.PrintLast Go.Proofs.YteblbggmchcijaaDoorW.PrintMore
attribute [local go_sem] Oper.semAt_some
set_option linter.unusedVariables false
set_option linter.unusedSimpArgs false

abbrev zero5 : Array Value := #[.string ⟨#[]⟩, .string ⟨#[]⟩, .int .i64 0, .int .i64 0, .int .u8 0]
theorem keepA_ {w W : World} {g g2 : Nat} {p : Addr} {A : Array Value} {n1 n4 n6 kd : Int} (o : Obj) (s1 : Below w.heap.size w W) (s2 : W.heap[g]? = some (.cells zero5 25 (0, 0))) (s3 : W.heap[g2]? = some (.cells A 41 (0, 0)))
    (s4 : W.cell? ⟨g2, 0, none⟩ = some (.int .i64 n1)) (s5 : W.cell? ⟨g2, 1, none⟩ = some (.int .i64 n4)) (s6 : W.cell? ⟨g2, 2, none⟩ = some (.int .i64 n6)) (s7 : W.cell? p = some (.int .u8 kd)) :
    Below w.heap.size w (W.alloc o) ∧ (W.alloc o).heap[g]? = some (.cells zero5 25 (0, 0)) ∧ (W.alloc o).heap[g2]? = some (.cells A 41 (0, 0)) ∧ (W.alloc o).cell? ⟨g2, 0, none⟩ = some (.int .i64 n1) ∧ (W.alloc o).cell? ⟨g2, 1, none⟩ = some (.int .i64 n4) ∧ (W.alloc o).cell? ⟨g2, 2, none⟩ = some (.int .i64 n6) ∧ (W.alloc o).cell? p = some (.int .u8 kd) := by
  have hb : Below W.heap.size W (W.alloc o) := (Below.refl _ _).alloc (Nat.le_refl _) o
  exact ⟨s1.alloc s1.size o, blk_alloc s2 o, blk_alloc s3 o, (hb.cell (World.block_lt_of_cell? _ _ s4)).trans s4, (hb.cell (World.block_lt_of_cell? _ _ s5)).trans s5, (hb.cell (World.block_lt_of_cell? _ _ s6)).trans s6, (hb.cell (World.block_lt_of_cell? _ _ s7)).trans s7⟩
theorem far5 {W : World} {g h : Nat} {cs : Array Value} {t : TypeId} (s : W.heap[g]? = some (.cells cs t (0, 0))) (hne : g ≠ h) (a b c d e : Value) :
    (((((W.setCell ⟨h, 0, none⟩ a).setCell ⟨h, 1, none⟩ b).setCell ⟨h, 2, none⟩ c).setCell ⟨h, 3, none⟩ d).setCell ⟨h, 4, none⟩ e).heap[g]? = some (.cells cs t (0, 0)) :=
  blk_far (p := ⟨h, 4, none⟩) (blk_far (p := ⟨h, 3, none⟩) (blk_far (p := ⟨h, 2, none⟩) (blk_far (p := ⟨h, 1, none⟩) (blk_far (p := ⟨h, 0, none⟩) s hne _) hne _) hne _) hne _) hne _
theorem keepS_ {w W : World} {g g2 h : Nat} {p : Addr} {A : Array Value} {n1 n4 n6 kd : Int} {a b c d e : Value} (s1 : Below w.heap.size w W) (s2 : W.heap[g]? = some (.cells zero5 25 (0, 0))) (s3 : W.heap[g2]? = some (.cells A 41 (0, 0)))
    (s4 : W.cell? ⟨g2, 0, none⟩ = some (.int .i64 n1)) (s5 : W.cell? ⟨g2, 1, none⟩ = some (.int .i64 n4)) (s6 : W.cell? ⟨g2, 2, none⟩ = some (.int .i64 n6)) (s7 : w.cell? p = some (.int .u8 kd)) (h1 : g ≠ h) (h2 : g2 ≠ h) (h3 : w.heap.size ≤ h) :
    Below w.heap.size w (((((W.setCell ⟨h, 0, none⟩ a).setCell ⟨h, 1, none⟩ b).setCell ⟨h, 2, none⟩ c).setCell ⟨h, 3, none⟩ d).setCell ⟨h, 4, none⟩ e) ∧ (((((W.setCell ⟨h, 0, none⟩ a).setCell ⟨h, 1, none⟩ b).setCell ⟨h, 2, none⟩ c).setCell ⟨h, 3, none⟩ d).setCell ⟨h, 4, none⟩ e).heap[g]? = some (.cells zero5 25 (0, 0)) ∧ (((((W.setCell ⟨h, 0, none⟩ a).setCell ⟨h, 1, none⟩ b).setCell ⟨h, 2, none⟩ c).setCell ⟨h, 3, none⟩ d).setCell ⟨h, 4, none⟩ e).heap[g2]? = some (.cells A 41 (0, 0)) ∧
    (((((W.setCell ⟨h, 0, none⟩ a).setCell ⟨h, 1, none⟩ b).setCell ⟨h, 2, none⟩ c).setCell ⟨h, 3, none⟩ d).setCell ⟨h, 4, none⟩ e).cell? ⟨g2, 0, none⟩ = some (.int .i64 n1) ∧ (((((W.setCell ⟨h, 0, none⟩ a).setCell ⟨h, 1, none⟩ b).setCell ⟨h, 2, none⟩ c).setCell ⟨h, 3, none⟩ d).setCell ⟨h, 4, none⟩ e).cell? ⟨g2, 1, none⟩ = some (.int .i64 n4) ∧
    (((((W.setCell ⟨h, 0, none⟩ a).setCell ⟨h, 1, none⟩ b).setCell ⟨h, 2, none⟩ c).setCell ⟨h, 3, none⟩ d).setCell ⟨h, 4, none⟩ e).cell? ⟨g2, 2, none⟩ = some (.int .i64 n6) ∧ (((((W.setCell ⟨h, 0, none⟩ a).setCell ⟨h, 1, none⟩ b).setCell ⟨h, 2, none⟩ c).setCell ⟨h, 3, none⟩ d).setCell ⟨h, 4, none⟩ e).cell? p = some (.int .u8 kd) := by
  have hb := below5 s1 h3 a b c d e
  have hg2 := far5 s3 h2 a b c d e
  have f := blk_cell s3
  refine ⟨hb, far5 s2 h1 a b c d e, hg2, ?_, ?_, ?_, (hb.cell (World.block_lt_of_cell? _ _ s7)).trans s7⟩
  · rw [blk_cell hg2, ← f]; exact s4
  · rw [blk_cell hg2, ← f]; exact s5
  · rw [blk_cell hg2, ← f]; exact s6
theorem keepD_ {w W : World} {g g2 : Nat} {p : Addr} {A : Array Value} {n1 n4 n6 kd : Int} (s1 : Below w.heap.size w W) (s2 : W.heap[g]? = some (.cells zero5 25 (0, 0))) (s3 : W.heap[g2]? = some (.cells A 41 (0, 0)))
    (s4 : W.cell? ⟨g2, 0, none⟩ = some (.int .i64 n1)) (s5 : W.cell? ⟨g2, 1, none⟩ = some (.int .i64 n4)) (s6 : W.cell? ⟨g2, 2, none⟩ = some (.int .i64 n6)) (s7 : W.cell? p = some (.int .u8 kd)) :
    Below w.heap.size w W.drew ∧ W.drew.heap[g]? = some (.cells zero5 25 (0, 0)) ∧ W.drew.heap[g2]? = some (.cells A 41 (0, 0)) ∧ W.drew.cell? ⟨g2, 0, none⟩ = some (.int .i64 n1) ∧ W.drew.cell? ⟨g2, 1, none⟩ = some (.int .i64 n4) ∧ W.drew.cell? ⟨g2, 2, none⟩ = some (.int .i64 n6) ∧ W.drew.cell? p = some (.int .u8 kd) :=
  ⟨below_drew1 s1, s2, s3, s4, s5, s6, s7⟩
theorem keepAD_ {w W : World} {g g2 : Nat} {p : Addr} {A : Array Value} {n1 n4 n6 kd : Int} (o : Obj) (s1 : Below w.heap.size w W) (s2 : W.heap[g]? = some (.cells zero5 25 (0, 0))) (s3 : W.heap[g2]? = some (.cells A 41 (0, 0)))
    (s4 : W.cell? ⟨g2, 0, none⟩ = some (.int .i64 n1)) (s5 : W.cell? ⟨g2, 1, none⟩ = some (.int .i64 n4)) (s6 : W.cell? ⟨g2, 2, none⟩ = some (.int .i64 n6)) (s7 : W.cell? p = some (.int .u8 kd)) :
    Below w.heap.size w (W.alloc o).drew ∧ (W.alloc o).drew.heap[g]? = some (.cells zero5 25 (0, 0)) ∧ (W.alloc o).drew.heap[g2]? = some (.cells A 41 (0, 0)) ∧ (W.alloc o).drew.cell? ⟨g2, 0, none⟩ = some (.int .i64 n1) ∧ (W.alloc o).drew.cell? ⟨g2, 1, none⟩ = some (.int .i64 n4) ∧ (W.alloc o).drew.cell? ⟨g2, 2, none⟩ = some (.int .i64 n6) ∧ (W.alloc o).drew.cell? p = some (.int .u8 kd) := by
  obtain ⟨t1, t2, t3, t4, t5, t6, t7⟩ := keepA_ o s1 s2 s3 s4 s5 s6 s7
  exact keepD_ t1 t2 t3 t4 t5 t6 t7
theorem keepE_ {w W : World} {g g2 g3 : Nat} {C : Array Value} {nm : ByteArray} {n4 n6 : Int} (s1 : Below w.heap.size w W) (s2 : W.heap[g]? = some (.cells zero5 25 (0, 0))) (s3 : W.heap[g3]? = some (.cells C 25 (0, 0)))
    (s4 : W.cell? ⟨g2, 2, none⟩ = some (.int .i64 n6)) (s5 : W.cell? ⟨g3, 0, none⟩ = some (.string nm)) (s6 : W.cell? ⟨g3, 3, none⟩ = some (.int .i64 n4)) :
    Below w.heap.size w W.drew ∧ W.drew.heap[g]? = some (.cells zero5 25 (0, 0)) ∧ W.drew.heap[g3]? = some (.cells C 25 (0, 0)) ∧ W.drew.cell? ⟨g2, 2, none⟩ = some (.int .i64 n6) ∧ W.drew.cell? ⟨g3, 0, none⟩ = some (.string nm) ∧ W.drew.cell? ⟨g3, 3, none⟩ = some (.int .i64 n4) :=
  ⟨below_drew1 s1, s2, s3, s4, s5, s6⟩
theorem textL_size (l : List Int) : (textL l).size ≤ l.length := by
  unfold textL
  rw [show ∀ xs : List Int, (strOfNums xs).size = xs.length from fun xs => by simp [strOfNums, ByteArray.size]]
  exact (List.takeWhile_sublist _).length_le
/-- The first three numbers that are read. -/
def arr3 (l : List Int) : Nat → Array Value
  | 0 => #[.int .i64 0, .int .i64 0, .int .i64 0]
  | 1 => #[.int .i64 (octP (fldL l 1)).1, .int .i64 0, .int .i64 0]
  | 2 => #[.int .i64 (octP (fldL l 1)).1, .int .i64 (octP (fldL l 4)).1, .int .i64 0]
  | _ => #[.int .i64 (octP (fldL l 1)).1, .int .i64 (octP (fldL l 4)).1, .int .i64 (octP (fldL l 6)).1]
def okTo (l : List Int) : Nat → Prop
  | 0 => True
  | 1 => (octP (fldL l 1)).2 = 0
  | 2 => (octP (fldL l 1)).2 = 0 ∧ (octP (fldL l 4)).2 = 0
  | _ => (octP (fldL l 1)).2 = 0 ∧ (octP (fldL l 4)).2 = 0 ∧ (octP (fldL l 6)).2 = 0
set_option maxHeartbeats 8000000 in
set_option maxRecDepth 100000 in
theorem parse_calls (A0 : Option Addr) (c0 : Nat) (l0 : List Int) (w : World) (hF : Fields w) (hr0 : Kd.C (Kd.int .u8) w A0 l0.length l0) (hc0 : l0.length ≤ c0) (hby : AreBytes l0) :
    Calls Tryd.prog 10 #[.slice A0 l0.length c0] w fun e w' => e = .returned (sixV (parseP l0)) ∧ Below w.heap.size w w' := by
  have hu25 := Tryd.underlying25
  obtain ⟨W1, hW1⟩ : ∃ W1, W1 = w.alloc (.cells zero5 25) := ⟨_, rfl⟩
  have hB1 : Below w.heap.size w W1 := by rw [hW1]; exact (Below.refl _ _).alloc (Nat.le_refl _) _
  have hbk : W1.heap[w.heap.size]? = some (.cells zero5 25 (0, 0)) := by rw [hW1]; exact heap_alloc_new w _
  obtain ⟨g, hg⟩ : ∃ g, g = w.heap.size := ⟨_, rfl⟩
  have HGe : Aside0 (w.heap.size ≤ g) := Aside0.mk (by omega)
  obtain ⟨r, hr⟩ : ∃ r, parseP l0 = r := ⟨_, rfl⟩
  rw [hr]
  unfold parseP at hr
  by_cases hl : l0.length = 512
  · obtain ⟨ad, rfl⟩ : ∃ ad, A0 = some ad := by
      obtain ⟨ad, e, _⟩ := Kd.at_int hr0 0 (by omega) (by omega)
      exact ⟨ad, e⟩
    have HC : Aside0 (Kd.C (Kd.int .u8) w (some ad) l0.length l0) := Aside0.mk hr0
    have HBy := Aside0.mk hby
    have HF := Aside0.mk hF
    have hc1 : 512 ≤ c0 := by omega
    obtain ⟨s, hs⟩ : ∃ s, strOfNums (fldL l0 9) = s := ⟨_, rfl⟩
    have HS := Aside0.mk hs
    clear hr0 hby hF hc0
    have t1 : ((l0.length : Int) == 512) = true := by simp; omega
    have t2 : ((l0.length : Int) != 512) = false := by simp; omega
    rw [hl]
    go_enter Tryd.func10, Tryd.ntmps10
    go_upto_region 1 with fail
    rw [← hW1]
    rw [← hg] at hbk ⊢
    have HB1 := Aside0.mk hB1
    have HK1 := Aside0.mk hbk
    clear hW1 hB1 hbk hg
    go_wp2_with fail
    refine (of_calls2 ad c0 9 W1 (HF.out.below HB1.out) (by decide) hc1).mono ?_
    rintro e W2 ⟨rfl, hb2⟩
    have hB2 := HB1.out.trans (hb2.mono HB1.out.size)
    have hbk := blk_below HK1.out hb2
    have d0 := blk_cell hbk 0
    have d1 := blk_cell hbk 1
    have d2 := blk_cell hbk 2
    have d3 := blk_cell hbk 3
    have d4 := blk_cell hbk 4
    have f0 := blk_frozen hbk 0
    have f1 := blk_frozen hbk 1
    have f2 := blk_frozen hbk 2
    have f3 := blk_frozen hbk 3
    have f4 := blk_frozen hbk 4
    have hcv := Kd.C_string (P := Tryd.prog) (A := some (ad.add (fldAt 9))) (c := fldSz 9) Tryd.underlying22 Tryd.underlying5 Tryd.underlying9 (Kd.C_below (fldL_C hl HC.out 9 (by decide)) hB2)
    rw [fldL_length hl 9 (by decide), hs] at hcv
    have HB := Aside0.mk hB2
    have HK := Aside0.mk hbk
    rw [hs] at hr
    clear hb2 hB2 hbk HB1 HK1 hs
    by_cases hu : s.toList = ustar.toList
    · rw [if_neg (by intro h; rcases h with h | h; exact h hl; exact h hu)] at hr
      have t3 : (s.toList == ([117, 115, 116, 97, 114, 0, 48, 48] : List UInt8)) = true := by rw [hu]; decide +kernel
      clear hu
      go_upto_region 3 with fail
      clear d0 d1 d2 d3 d4 f0 f1 f2 f3 f4 t1 t2 t3 hcv HS
      obtain ⟨g2, hg2⟩ : ∃ g2, g2 = W2.heap.size := ⟨_, rfl⟩
      have hlt : g < g2 := by rw [hg2]; exact blk_lt HK.out
      have HGe2 : Aside0 (w.heap.size ≤ g2) := Aside0.mk (by have := HGe.out; omega)
      have HNe : Aside0 (g ≠ g2) := Aside0.mk (by omega)
      have HR := Aside0.mk hr
      clear hr hlt
      obtain ⟨W3, hW3⟩ : ∃ W3, W3 = W2.alloc (.cells (arr3 l0 0) 41) := ⟨_, rfl⟩
      have HB3 : Aside0 (Below w.heap.size w W3) := Aside0.mk (by rw [hW3]; exact HB.out.alloc HB.out.size _)
      have HK3 : Aside0 (W3.heap[g]? = some (.cells zero5 25 (0, 0))) := Aside0.mk (by rw [hW3]; exact blk_alloc HK.out _)
      have HL3 : Aside0 (W3.heap[g2]? = some (.cells (arr3 l0 0) 41 (0, 0))) := Aside0.mk (by rw [hW3, hg2]; exact heap_alloc_new W2 _)
      clear HB HK
      have hu41 := Tryd.underlying41
      go_upto_region 4 with fail
      rw [← hg2, show W2.alloc (.cells #[Value.int IntKind.i64 0, Value.int IntKind.i64 0, Value.int IntKind.i64 0] 41) = W3 from hW3.symm]
      clear hW3 hg2
      go_wp2
      go_loopw [22] (fun i W => ∃ k : Nat, i = .int .i64 (k : Int) ∧ k ≤ 3 ∧ Aside0 (okTo l0 k) ∧ Aside0 (Below w.heap.size w W) ∧ Aside0 (W.heap[g]? = some (.cells zero5 25 (0, 0))) ∧ Aside0 (W.heap[g2]? = some (.cells (arr3 l0 k) 41 (0, 0)))) (fun i _ => 3 - (RowKit.intOf i).toNat)
      case atStart => exact ⟨0, rfl, by omega, ⟨trivial⟩, HB3, HK3, HL3⟩
      case round =>
        clear HB3 HK3 HL3
        obtain ⟨k, rfl, hk, HOK, HB, HK, HK2⟩ := hrel
        obtain rfl | rfl | rfl | rfl : k = 0 ∨ k = 1 ∨ k = 2 ∨ k = 3 := by omega
        -- ROUNDS
        · -- round 0
          have hbk2 := HK2.out
          have a0 := blk_cell hbk2 0
          have a1 := blk_cell hbk2 1
          have a2 := blk_cell hbk2 2
          have b0 := blk_frozen hbk2 0
          have b1 := blk_frozen hbk2 1
          have b2 := blk_frozen hbk2 2
          clear hbk2
          have ix : ∀ W : World, (Instr.index 41 (.agg #[.int .i64 1, .int .i64 4, .int .i64 6]) (.int .i64 0)).run Tryd.prog W = .ok (.int .i64 1) W := fun _ => by kernel_rfl
          go_wp2_with fail
          refine (of_calls2 ad c0 1 wr (HF.out.below HB.out) (by decide) hc1).mono ?_
          rintro e W4 ⟨rfl, hb4⟩
          clear a0 a1 a2 b0 b1 b2 ix
          have HB4 := Aside0.mk (HB.out.trans (hb4.mono HB.out.size))
          have HK4 := Aside0.mk (blk_below HK.out hb4)
          have HL4 := Aside0.mk (blk_below HK2.out hb4)
          clear HB HK HK2 hb4
          go_wp2_with fail
          refine (octal_fld hl HC.out HBy.out 1 (by decide) W4 HB4.out).mono ?_
          rintro e W5 ⟨rfl, hb5⟩
          have HB5 := Aside0.mk (HB4.out.trans (hb5.mono HB4.out.size))
          have hbk := blk_below HK4.out hb5
          have hbk2 := blk_below HL4.out hb5
          have a0 := blk_cell hbk2 0
          have a1 := blk_cell hbk2 1
          have a2 := blk_cell hbk2 2
          have b0 := blk_frozen hbk2 0
          have b1 := blk_frozen hbk2 1
          have b2 := blk_frozen hbk2 2
          have d0 := blk_cell hbk 0
          have d1 := blk_cell hbk 1
          have d2 := blk_cell hbk 2
          have d3 := blk_cell hbk 3
          have d4 := blk_cell hbk 4
          have f0 := blk_frozen hbk 0
          have f1 := blk_frozen hbk 1
          have f2 := blk_frozen hbk 2
          have f3 := blk_frozen hbk 3
          have f4 := blk_frozen hbk 4
          have HK5 := Aside0.mk hbk
          have HL5 := Aside0.mk hbk2
          clear HB4 HK4 HL4 hb5 hbk hbk2
          rcases octP_err (fldL l0 1) with he | he
          · have z : ((octP (fldL l0 1)).2 == 0) = true := by rw [he]; rfl
            have HE := Aside0.mk he
            clear he
            go_wp2
            exact ⟨⟨1, rfl, by omega, ⟨by have := HE.out; have := HOK.out; simp_all [okTo]⟩, ⟨HB5.out.setCell (p := ⟨g2, 0, none⟩) HGe2.out _⟩, ⟨blk_far HK5.out (p := ⟨g2, 0, none⟩) HNe.out _⟩, ⟨blk_put (cs := #[.int .i64 0, .int .i64 0, .int .i64 0]) (cs' := #[.int .i64 (octP (fldL l0 1)).1, .int .i64 0, .int .i64 0]) HL5.out 0 _ rfl⟩⟩, by decide⟩
          · have hr := HR.out
            rw [if_pos (by rw [he]; simp)] at hr
            subst hr
            rw [he]
            go_wp2
            refine bodyPost_ret (results_ct rfl _ _ g 25 zero5 (0, 0) _ rfl (blk5 HK5.out) Tryd.underlying25 rfl (by kernel_rfl)) rfl ?_
            exact ⟨rfl, below5 HB5.out HGe.out _ _ _ _ _⟩
        · -- round 1
          have hbk2 := HK2.out
          have a0 := blk_cell hbk2 0
          have a1 := blk_cell hbk2 1
          have a2 := blk_cell hbk2 2
          have b0 := blk_frozen hbk2 0
          have b1 := blk_frozen hbk2 1
          have b2 := blk_frozen hbk2 2
          clear hbk2
          have ix : ∀ W : World, (Instr.index 41 (.agg #[.int .i64 1, .int .i64 4, .int .i64 6]) (.int .i64 1)).run Tryd.prog W = .ok (.int .i64 4) W := fun _ => by kernel_rfl
          go_wp2_with fail
          refine (of_calls2 ad c0 4 wr (HF.out.below HB.out) (by decide) hc1).mono ?_
          rintro e W4 ⟨rfl, hb4⟩
          clear a0 a1 a2 b0 b1 b2 ix
          have HB4 := Aside0.mk (HB.out.trans (hb4.mono HB.out.size))
          have HK4 := Aside0.mk (blk_below HK.out hb4)
          have HL4 := Aside0.mk (blk_below HK2.out hb4)
          clear HB HK HK2 hb4
          go_wp2_with fail
          refine (octal_fld hl HC.out HBy.out 4 (by decide) W4 HB4.out).mono ?_
          rintro e W5 ⟨rfl, hb5⟩
          have HB5 := Aside0.mk (HB4.out.trans (hb5.mono HB4.out.size))
          have hbk := blk_below HK4.out hb5
          have hbk2 := blk_below HL4.out hb5
          have a0 := blk_cell hbk2 0
          have a1 := blk_cell hbk2 1
          have a2 := blk_cell hbk2 2
          have b0 := blk_frozen hbk2 0
          have b1 := blk_frozen hbk2 1
          have b2 := blk_frozen hbk2 2
          have d0 := blk_cell hbk 0
          have d1 := blk_cell hbk 1
          have d2 := blk_cell hbk 2
          have d3 := blk_cell hbk 3
          have d4 := blk_cell hbk 4
          have f0 := blk_frozen hbk 0
          have f1 := blk_frozen hbk 1
          have f2 := blk_frozen hbk 2
          have f3 := blk_frozen hbk 3
          have f4 := blk_frozen hbk 4
          have HK5 := Aside0.mk hbk
          have HL5 := Aside0.mk hbk2
          clear HB4 HK4 HL4 hb5 hbk hbk2
          rcases octP_err (fldL l0 4) with he | he
          · have z : ((octP (fldL l0 4)).2 == 0) = true := by rw [he]; rfl
            have HE := Aside0.mk he
            clear he
            go_wp2
            exact ⟨⟨2, rfl, by omega, ⟨by have := HE.out; have := HOK.out; simp_all [okTo]⟩, ⟨HB5.out.setCell (p := ⟨g2, 1, none⟩) HGe2.out _⟩, ⟨blk_far HK5.out (p := ⟨g2, 1, none⟩) HNe.out _⟩, ⟨blk_put (cs := #[.int .i64 (octP (fldL l0 1)).1, .int .i64 0, .int .i64 0]) (cs' := #[.int .i64 (octP (fldL l0 1)).1, .int .i64 (octP (fldL l0 4)).1, .int .i64 0]) HL5.out 1 _ rfl⟩⟩, by decide⟩
          · have hr := HR.out
            rw [if_pos (by rw [he]; simp)] at hr
            subst hr
            rw [he]
            go_wp2
            refine bodyPost_ret (results_ct rfl _ _ g 25 zero5 (0, 0) _ rfl (blk5 HK5.out) Tryd.underlying25 rfl (by kernel_rfl)) rfl ?_
            exact ⟨rfl, below5 HB5.out HGe.out _ _ _ _ _⟩
        · -- round 2
          have hbk2 := HK2.out
          have a0 := blk_cell hbk2 0
          have a1 := blk_cell hbk2 1
          have a2 := blk_cell hbk2 2
          have b0 := blk_frozen hbk2 0
          have b1 := blk_frozen hbk2 1
          have b2 := blk_frozen hbk2 2
          clear hbk2
          have ix : ∀ W : World, (Instr.index 41 (.agg #[.int .i64 1, .int .i64 4, .int .i64 6]) (.int .i64 2)).run Tryd.prog W = .ok (.int .i64 6) W := fun _ => by kernel_rfl
          go_wp2_with fail
          refine (of_calls2 ad c0 6 wr (HF.out.below HB.out) (by decide) hc1).mono ?_
          rintro e W4 ⟨rfl, hb4⟩
          clear a0 a1 a2 b0 b1 b2 ix
          have HB4 := Aside0.mk (HB.out.trans (hb4.mono HB.out.size))
          have HK4 := Aside0.mk (blk_below HK.out hb4)
          have HL4 := Aside0.mk (blk_below HK2.out hb4)
          clear HB HK HK2 hb4
          go_wp2_with fail
          refine (octal_fld hl HC.out HBy.out 6 (by decide) W4 HB4.out).mono ?_
          rintro e W5 ⟨rfl, hb5⟩
          have HB5 := Aside0.mk (HB4.out.trans (hb5.mono HB4.out.size))
          have hbk := blk_below HK4.out hb5
          have hbk2 := blk_below HL4.out hb5
          have a0 := blk_cell hbk2 0
          have a1 := blk_cell hbk2 1
          have a2 := blk_cell hbk2 2
          have b0 := blk_frozen hbk2 0
          have b1 := blk_frozen hbk2 1
          have b2 := blk_frozen hbk2 2
          have d0 := blk_cell hbk 0
          have d1 := blk_cell hbk 1
          have d2 := blk_cell hbk 2
          have d3 := blk_cell hbk 3
          have d4 := blk_cell hbk 4
          have f0 := blk_frozen hbk 0
          have f1 := blk_frozen hbk 1
          have f2 := blk_frozen hbk 2
          have f3 := blk_frozen hbk 3
          have f4 := blk_frozen hbk 4
          have HK5 := Aside0.mk hbk
          have HL5 := Aside0.mk hbk2
          clear HB4 HK4 HL4 hb5 hbk hbk2
          rcases octP_err (fldL l0 6) with he | he
          · have z : ((octP (fldL l0 6)).2 == 0) = true := by rw [he]; rfl
            have HE := Aside0.mk he
            clear he
            go_wp2
            exact ⟨⟨3, rfl, by omega, ⟨by have := HE.out; have := HOK.out; simp_all [okTo]⟩, ⟨HB5.out.setCell (p := ⟨g2, 2, none⟩) HGe2.out _⟩, ⟨blk_far HK5.out (p := ⟨g2, 2, none⟩) HNe.out _⟩, ⟨blk_put (cs := #[.int .i64 (octP (fldL l0 1)).1, .int .i64 (octP (fldL l0 4)).1, .int .i64 0]) (cs' := #[.int .i64 (octP (fldL l0 1)).1, .int .i64 (octP (fldL l0 4)).1, .int .i64 (octP (fldL l0 6)).1]) HL5.out 2 _ rfl⟩⟩, by decide⟩
          · have hr := HR.out
            rw [if_pos (by rw [he]; simp)] at hr
            subst hr
            rw [he]
            go_wp2
            refine bodyPost_ret (results_ct rfl _ _ g 25 zero5 (0, 0) _ rfl (blk5 HK5.out) Tryd.underlying25 rfl (by kernel_rfl)) rfl ?_
            exact ⟨rfl, below5 HB5.out HGe.out _ _ _ _ _⟩
        -- END ROUNDS
        · have hr := HR.out
          have hok := HOK.out
          rw [if_neg (by intro h; rcases h with h | h | h; exact h hok.1; exact h hok.2.1; exact h hok.2.2)] at hr
          obtain ⟨n1, hn1⟩ : ∃ n1, (octP (fldL l0 1)).1 = n1 := ⟨_, rfl⟩
          obtain ⟨n4, hn4⟩ : ∃ n4, (octP (fldL l0 4)).1 = n4 := ⟨_, rfl⟩
          obtain ⟨n6, hn6⟩ : ∃ n6, (octP (fldL l0 6)).1 = n6 := ⟨_, rfl⟩
          obtain ⟨kd, hkd⟩ : ∃ kd, rd l0 156 = kd := ⟨_, rfl⟩
          obtain ⟨nm, hnm⟩ : ∃ nm, textL (fldL l0 0) = nm := ⟨_, rfl⟩
          obtain ⟨lk, hlk⟩ : ∃ lk, textL (fldL l0 8) = lk := ⟨_, rfl⟩
          obtain ⟨pf, hpf⟩ : ∃ pf, textL (fldL l0 10) = pf := ⟨_, rfl⟩
          rw [hn1, hn4, hn6, hkd, hnm, hlk, hpf] at hr
          have of0 : ∀ W, Below w.heap.size w W → Calls Tryd.prog 23 #[.slice (some ad) 512 c0, .int .i64 0] W fun e w' => e = .returned (.slice (some (ad.add (fldAt 0))) (fldSz 0) (fldSz 0)) ∧ Below W.heap.size W w' := fun W hW => of_calls2 ad c0 0 W (HF.out.below hW) (by decide) hc1
          have of8 : ∀ W, Below w.heap.size w W → Calls Tryd.prog 23 #[.slice (some ad) 512 c0, .int .i64 8] W fun e w' => e = .returned (.slice (some (ad.add (fldAt 8))) (fldSz 8) (fldSz 8)) ∧ Below W.heap.size W w' := fun W hW => of_calls2 ad c0 8 W (HF.out.below hW) (by decide) hc1
          have of7 : ∀ W, Below w.heap.size w W → Calls Tryd.prog 23 #[.slice (some ad) 512 c0, .int .i64 7] W fun e w' => e = .returned (.slice (some (ad.add 156)) 1 1) ∧ Below W.heap.size W w' := fun W hW => of_calls2 ad c0 7 W (HF.out.below hW) (by decide) hc1
          have tx0 : ∀ W, Below w.heap.size w W → Calls Tryd.prog 24 #[.slice (some (ad.add (fldAt 0))) (fldSz 0) (fldSz 0)] W fun e w' => e = .returned (.string nm) ∧ Below W.heap.size W w' := fun W hW => by rw [← hnm]; exact text_fld hl HC.out HBy.out 0 (by decide) W hW
          have tx8 : ∀ W, Below w.heap.size w W → Calls Tryd.prog 24 #[.slice (some (ad.add (fldAt 8))) (fldSz 8) (fldSz 8)] W fun e w' => e = .returned (.string lk) ∧ Below W.heap.size W w' := fun W hW => by rw [← hlk]; exact text_fld hl HC.out HBy.out 8 (by decide) W hW
          have HOF := Aside0.mk (And.intro of0 (And.intro of8 (And.intro of7 (And.intro tx0 tx8))))
          have a0 : wr.cell? ⟨g2, 0, none⟩ = some (.int .i64 n1) := by rw [blk_cell HK2.out 0, ← hn1]; rfl
          have a1 : wr.cell? ⟨g2, 1, none⟩ = some (.int .i64 n4) := by rw [blk_cell HK2.out 1, ← hn4]; rfl
          have a2 : wr.cell? ⟨g2, 2, none⟩ = some (.int .i64 n6) := by rw [blk_cell HK2.out 2, ← hn6]; rfl
          have ak : wr.cell? (ad.add 156) = some (.int .u8 kd) := by
            obtain ⟨ad', e', hx⟩ := Kd.at_int HC.out 156 (by decide) (by omega)
            cases e'
            rw [← hkd]
            exact (HB.out.cell (World.block_lt_of_cell? w _ hx)).trans hx
          have KW : w.cell? (ad.add 156) = some (.int .u8 kd) := by
            obtain ⟨ad', e', hx⟩ := Kd.at_int HC.out 156 (by decide) (by omega)
            cases e'
            rw [← hkd]
            exact hx
          have hsp : ad.add 156 = ⟨ad.block, ad.off + 156, none⟩ := by simp [Addr.add]
          rw [hsp] at KW ak
          clear hsp
          have HR2 := Aside0.mk hr
          have HPF := Aside0.mk hpf
          have HPZ : Aside0 (pf.size ≤ 155) := Aside0.mk (by rw [← hpf]; exact Nat.le_trans (textL_size _) (by rw [fldL_length hl 10 (by decide)]; decide))
          have HNZ : Aside0 (nm.size ≤ 100) := Aside0.mk (by rw [← hnm]; exact Nat.le_trans (textL_size _) (by rw [fldL_length hl 0 (by decide)]; decide))
          have ltg := blk_lt HK.out
          have ltg2 := blk_lt HK2.out
          have HBd := pw_below_drewN HB.out 1
          clear hr hok HR HOK hn1 hn4 hn6 hkd hnm hlk hpf of0 of8 of7 tx0 tx8
          go_upto_region 12 with fail
          go_cut [9] from 41 to 56 (fun v9 W => ∃ g3 : Nat, v9 = .pointer (some ⟨g3, 0, none⟩) ∧ Aside0 (W.heap[g3]? = some (.cells #[.string nm, .string lk, .int .i64 (bits .and .i64 n1 4095), .int .i64 n4, .int .u8 kd] 25 (0, 0))) ∧ Aside0 (g ≠ g3) ∧ Aside0 (g2 ≠ g3) ∧ Aside0 (w.heap.size ≤ g3) ∧ Aside0 (Below w.heap.size w W) ∧ Aside0 (W.heap[g]? = some (.cells zero5 25 (0, 0))) ∧ Aside0 (W.heap[g2]? = some (.cells (arr3 l0 3) 41 (0, 0))) ∧ Aside0 (W.cell? ⟨g2, 2, none⟩ = some (.int .i64 n6)))
          case first =>
            -- REGION12
            obtain ⟨of0, of8, of7, tx0, tx8⟩ := HOF.out
            go_region_held3 (fun W => Below w.heap.size w W ∧ W.heap[g]? = some (.cells zero5 25 (0, 0)) ∧ W.heap[g2]? = some (.cells (arr3 l0 3) 41 (0, 0)) ∧ W.cell? ⟨g2, 0, none⟩ = some (.int .i64 n1) ∧ W.cell? ⟨g2, 1, none⟩ = some (.int .i64 n4) ∧ W.cell? ⟨g2, 2, none⟩ = some (.int .i64 n6) ∧ W.cell? ⟨ad.block, ad.off + 156, none⟩ = some (.int .u8 kd))
              (first
                | with_reducible exact ⟨s1.trans (hb.mono s1.size), blk_below s2 hb, blk_below s3 hb, (hb.cell (World.block_lt_of_cell? _ _ s4)).trans s4, (hb.cell (World.block_lt_of_cell? _ _ s5)).trans s5, (hb.cell (World.block_lt_of_cell? _ _ s6)).trans s6, (hb.cell (World.block_lt_of_cell? _ _ s7)).trans s7⟩
                | with_reducible exact ⟨HB.out, HK.out, HK2.out, a0, a1, a2, ak⟩
                | with_reducible exact keepAD_ _ HB.out HK.out HK2.out a0 a1 a2 ak
                | with_reducible exact keepD_ HB.out HK.out HK2.out a0 a1 a2 ak
                | with_reducible exact keepA_ _ (s1.trans (hb.mono s1.size)) (blk_below s2 hb) (blk_below s3 hb) ((hb.cell (World.block_lt_of_cell? _ _ s4)).trans s4) ((hb.cell (World.block_lt_of_cell? _ _ s5)).trans s5) ((hb.cell (World.block_lt_of_cell? _ _ s6)).trans s6) ((hb.cell (World.block_lt_of_cell? _ _ s7)).trans s7)
                | (have hh : Below w.heap.size w _ ∧ _ := ‹_›; obtain ⟨s1, s2, s3, s4, s5, s6, s7⟩ := hh; with_reducible exact keepA_ _ s1 s2 s3 s4 s5 s6 s7)
                | (have hh : Below w.heap.size w _ ∧ _ := ‹_›; obtain ⟨s1, s2, s3, s4, s5, s6, s7⟩ := hh; with_reducible exact keepS_ s1 s2 s3 s4 s5 s6 KW nn.1 nn.2 nl)
                | (have hh : Below w.heap.size w _ ∧ _ := ‹_›; obtain ⟨s1, s2, s3, s4, s5, s6, s7⟩ := hh; with_reducible exact keepS_ s1 s2 s3 s4 s5 s6 KW (Nat.ne_of_lt ltg) (Nat.ne_of_lt ltg2) (Nat.le_of_lt (Nat.lt_of_le_of_lt HGe.out ltg))))
              ((first | (go_at_call 23; have hh : Below w.heap.size w _ ∧ _ := ‹_›; obtain ⟨s1, s2, s3, s4, s5, s6, s7⟩ := hh; with_reducible refine (of0 _ s1).mono ?_; rintro e W' ⟨rfl, hb⟩; (first | (have nb := blk_below (blk_new _ (.cells zero5 25)) hb; have nn := And.intro (Nat.ne_of_lt ltg) (Nat.ne_of_lt ltg2); have nl := Nat.le_of_lt (Nat.lt_of_le_of_lt HGe.out ltg)) | (have nb := blk_below (blk_drew (blk_new _ (.cells zero5 25))) hb; have nn := And.intro (Nat.ne_of_lt ltg) (Nat.ne_of_lt ltg2); have nl := Nat.le_of_lt (Nat.lt_of_le_of_lt HGe.out ltg)) | (have nb := blk_below nb hb) | skip); (try (have e0 := blk_cell nb 0; have e1 := blk_cell nb 1; have e2 := blk_cell nb 2; have e3 := blk_cell nb 3; have e4 := blk_cell nb 4; have z0 := blk_frozen nb 0; have z1 := blk_frozen nb 1; have z2 := blk_frozen nb 2; have z3 := blk_frozen nb 3; have z4 := blk_frozen nb 4)); have ltg := Nat.lt_of_lt_of_le (blk_lt s2) hb.size; have ltg2 := Nat.lt_of_lt_of_le (blk_lt s3) hb.size) | (go_at_call 24; have hh : Below w.heap.size w _ ∧ _ := ‹_›; obtain ⟨s1, s2, s3, s4, s5, s6, s7⟩ := hh; with_reducible refine (tx0 _ s1).mono ?_; rintro e W' ⟨rfl, hb⟩; (first | (have nb := blk_below (blk_new _ (.cells zero5 25)) hb; have nn := And.intro (Nat.ne_of_lt ltg) (Nat.ne_of_lt ltg2); have nl := Nat.le_of_lt (Nat.lt_of_le_of_lt HGe.out ltg)) | (have nb := blk_below (blk_drew (blk_new _ (.cells zero5 25))) hb; have nn := And.intro (Nat.ne_of_lt ltg) (Nat.ne_of_lt ltg2); have nl := Nat.le_of_lt (Nat.lt_of_le_of_lt HGe.out ltg)) | (have nb := blk_below nb hb) | skip); (try (have e0 := blk_cell nb 0; have e1 := blk_cell nb 1; have e2 := blk_cell nb 2; have e3 := blk_cell nb 3; have e4 := blk_cell nb 4; have z0 := blk_frozen nb 0; have z1 := blk_frozen nb 1; have z2 := blk_frozen nb 2; have z3 := blk_frozen nb 3; have z4 := blk_frozen nb 4)); have ltg := Nat.lt_of_lt_of_le (blk_lt s2) hb.size; have ltg2 := Nat.lt_of_lt_of_le (blk_lt s3) hb.size) | (go_at_call 23; have hh : Below w.heap.size w _ ∧ _ := ‹_›; obtain ⟨s1, s2, s3, s4, s5, s6, s7⟩ := hh; with_reducible refine (of8 _ s1).mono ?_; rintro e W' ⟨rfl, hb⟩; (first | (have nb := blk_below (blk_new _ (.cells zero5 25)) hb; have nn := And.intro (Nat.ne_of_lt ltg) (Nat.ne_of_lt ltg2); have nl := Nat.le_of_lt (Nat.lt_of_le_of_lt HGe.out ltg)) | (have nb := blk_below (blk_drew (blk_new _ (.cells zero5 25))) hb; have nn := And.intro (Nat.ne_of_lt ltg) (Nat.ne_of_lt ltg2); have nl := Nat.le_of_lt (Nat.lt_of_le_of_lt HGe.out ltg)) | (have nb := blk_below nb hb) | skip); (try (have e0 := blk_cell nb 0; have e1 := blk_cell nb 1; have e2 := blk_cell nb 2; have e3 := blk_cell nb 3; have e4 := blk_cell nb 4; have z0 := blk_frozen nb 0; have z1 := blk_frozen nb 1; have z2 := blk_frozen nb 2; have z3 := blk_frozen nb 3; have z4 := blk_frozen nb 4)); have ltg := Nat.lt_of_lt_of_le (blk_lt s2) hb.size; have ltg2 := Nat.lt_of_lt_of_le (blk_lt s3) hb.size) | (go_at_call 24; have hh : Below w.heap.size w _ ∧ _ := ‹_›; obtain ⟨s1, s2, s3, s4, s5, s6, s7⟩ := hh; with_reducible refine (tx8 _ s1).mono ?_; rintro e W' ⟨rfl, hb⟩; (first | (have nb := blk_below (blk_new _ (.cells zero5 25)) hb; have nn := And.intro (Nat.ne_of_lt ltg) (Nat.ne_of_lt ltg2); have nl := Nat.le_of_lt (Nat.lt_of_le_of_lt HGe.out ltg)) | (have nb := blk_below (blk_drew (blk_new _ (.cells zero5 25))) hb; have nn := And.intro (Nat.ne_of_lt ltg) (Nat.ne_of_lt ltg2); have nl := Nat.le_of_lt (Nat.lt_of_le_of_lt HGe.out ltg)) | (have nb := blk_below nb hb) | skip); (try (have e0 := blk_cell nb 0; have e1 := blk_cell nb 1; have e2 := blk_cell nb 2; have e3 := blk_cell nb 3; have e4 := blk_cell nb 4; have z0 := blk_frozen nb 0; have z1 := blk_frozen nb 1; have z2 := blk_frozen nb 2; have z3 := blk_frozen nb 3; have z4 := blk_frozen nb 4)); have ltg := Nat.lt_of_lt_of_le (blk_lt s2) hb.size; have ltg2 := Nat.lt_of_lt_of_le (blk_lt s3) hb.size) | (go_at_call 23; have hh : Below w.heap.size w _ ∧ _ := ‹_›; obtain ⟨s1, s2, s3, s4, s5, s6, s7⟩ := hh; with_reducible refine (of7 _ s1).mono ?_; rintro e W' ⟨rfl, hb⟩; (first | (have nb := blk_below (blk_new _ (.cells zero5 25)) hb; have nn := And.intro (Nat.ne_of_lt ltg) (Nat.ne_of_lt ltg2); have nl := Nat.le_of_lt (Nat.lt_of_le_of_lt HGe.out ltg)) | (have nb := blk_below (blk_drew (blk_new _ (.cells zero5 25))) hb; have nn := And.intro (Nat.ne_of_lt ltg) (Nat.ne_of_lt ltg2); have nl := Nat.le_of_lt (Nat.lt_of_le_of_lt HGe.out ltg)) | (have nb := blk_below nb hb) | skip); (try (have e0 := blk_cell nb 0; have e1 := blk_cell nb 1; have e2 := blk_cell nb 2; have e3 := blk_cell nb 3; have e4 := blk_cell nb 4; have z0 := blk_frozen nb 0; have z1 := blk_frozen nb 1; have z2 := blk_frozen nb 2; have z3 := blk_frozen nb 3; have z4 := blk_frozen nb 4)); have ltg := Nat.lt_of_lt_of_le (blk_lt s2) hb.size; have ltg2 := Nat.lt_of_lt_of_le (blk_lt s3) hb.size)))
            all_goals go_wp2_with fail
            all_goals go_meet
            all_goals
              have hh : Below w.heap.size w _ ∧ _ := ‹_›
              obtain ⟨s1, s2, s3, s4, s5, s6, s7⟩ := hh
              first
                | with_reducible exact ⟨_, rfl, ⟨blk5 nb⟩, ⟨nn.1⟩, ⟨nn.2⟩, ⟨nl⟩, ⟨s1⟩, ⟨s2⟩, ⟨s3⟩, ⟨s6⟩⟩
                | with_reducible exact ⟨_, rfl, ⟨blk_new _ _⟩, ⟨Nat.ne_of_lt ltg⟩, ⟨Nat.ne_of_lt ltg2⟩, ⟨Nat.le_of_lt (Nat.lt_of_le_of_lt HGe.out ltg)⟩, ⟨s1⟩, ⟨s2⟩, ⟨s3⟩, ⟨s6⟩⟩
          case rest =>
            obtain ⟨g3, rfl, H3, HN3, HN23, HG3, HBx, HKx, HLx, HN6⟩ := hcut
            clear a0 a1 a2 ak ltg ltg2 HBd HOF KW HB HK HK2
            obtain ⟨sm, hsm⟩ : ∃ sm, sumTo l0 512 = sm := ⟨_, rfl⟩
            have hr := HR2.out
            rw [hsm] at hr
            have su : ∀ W, Below w.heap.size w W → Calls Tryd.prog 12 #[.slice (some ad) 512 c0] W fun e w' => e = .returned (.int .i64 sm) ∧ Below W.heap.size W w' := fun W hW => by
              have := sum_calls (some ad) c0 l0 W (HF.out.below hW) (Kd.C_below HC.out hW) (by omega) (by omega) HBy.out
              rwa [hl, hsm] at this
            obtain ⟨bb, hbb⟩ : ∃ bb : Bool, bb = decide (¬ n6 = sm ∨ 262144 < n4 ∨ nm.toList = []) := ⟨_, rfl⟩
            have HBB := Aside0.mk hbb
            have HR3 := Aside0.mk hr
            clear hr hsm hbb HR2
            have a0 : wc.cell? ⟨g2, 2, none⟩ = some (.int .i64 n6) := HN6.out
            have a1 : wc.cell? ⟨g3, 0, none⟩ = some (.string nm) := blk_cell H3.out 0
            have a2 : wc.cell? ⟨g3, 3, none⟩ = some (.int .i64 n4) := blk_cell H3.out 3
            have HSU := Aside0.mk su
            clear su
            go_upto_region 13 with fail
            go_cut [71] from 57 to 70 (fun v W => v = .bool bb ∧ Aside0 (W.heap[g3]? = some (.cells #[.string nm, .string lk, .int .i64 (bits .and .i64 n1 4095), .int .i64 n4, .int .u8 kd] 25 (0, 0))) ∧ Aside0 (Below w.heap.size w W) ∧ Aside0 (W.heap[g]? = some (.cells zero5 25 (0, 0))))
            case first =>
              have su := HSU.out
              by_cases q1 : n6 = sm
              · have t1 : (n6 == sm) = true := beq_iff_eq.2 q1
                have t1' : (n6 != sm) = false := by simp [q1]
                by_cases q2 : 262144 < n4
                · have t2 : decide (262144 < n4) = true := decide_eq_true q2
                  obtain rfl : bb = true := by rw [HBB.out]; exact decide_eq_true (Or.inr (Or.inl q2))
                  clear q1 q2 HBB
                  have k0 := cell_regrown a0
                  have k1 := cell_regrown a1
                  have k2 := cell_regrown a2
                  have r1 : ∀ d os, Calls Tryd.prog 12 #[.slice (some ad) 512 c0] (Sort.grow (redrawn wc d) os) fun e w'' => e = .returned (.int .i64 sm) ∧ ∃ p : Regrown, w'' = Sort.grow (redrawn wc p.d) p.os := fun d os => Calls.regrown_of (su _ (HBx.out.trans ((below_regrown wc d os).mono HBx.out.size)))
                  clear su
                  refine wp_region_quiet_below (by kernel_rfl) (by kernel_rfl) ?_
                  repeat (
                    with_reducible refine wpQuiet_step ?_
                    intro K hK
                    go_simp
                    first
                      | (with_reducible refine hK _ ?_; clear hK K)
                      | (apply Exists.intro
                         refine ⟨fun _ => ?_, hK _ ?_⟩
                         with_reducible exact r1 _ _
                         clear hK K))
                  refine wpQuiet_nil ?_
                  intro _ hw'
                  obtain ⟨⟨dq, osq⟩, hw''⟩ := hw'
                  subst hw''
                  have hq := below_regrown wc dq osq
                  go_wp2_with fail
                  go_meet
                  exact ⟨rfl, ⟨blk_below H3.out hq⟩, ⟨HBx.out.trans (hq.mono HBx.out.size)⟩, ⟨blk_below HKx.out hq⟩⟩
                · have t2 : decide (262144 < n4) = false := decide_eq_false q2
                  by_cases q3 : nm.toList = []
                  · have t3 : (nm.toList == ([] : List UInt8)) = true := beq_iff_eq.2 q3
                    obtain rfl : bb = true := by rw [HBB.out]; exact decide_eq_true (Or.inr (Or.inr q3))
                    clear q1 q2 q3 HBB
                    have k0 := cell_regrown a0
                    have k1 := cell_regrown a1
                    have k2 := cell_regrown a2
                    have r1 : ∀ d os, Calls Tryd.prog 12 #[.slice (some ad) 512 c0] (Sort.grow (redrawn wc d) os) fun e w'' => e = .returned (.int .i64 sm) ∧ ∃ p : Regrown, w'' = Sort.grow (redrawn wc p.d) p.os := fun d os => Calls.regrown_of (su _ (HBx.out.trans ((below_regrown wc d os).mono HBx.out.size)))
                    clear su
                    refine wp_region_quiet_below (by kernel_rfl) (by kernel_rfl) ?_
                    repeat (
                      with_reducible refine wpQuiet_step ?_
                      intro K hK
                      go_simp
                      first
                        | (with_reducible refine hK _ ?_; clear hK K)
                        | (apply Exists.intro
                           refine ⟨fun _ => ?_, hK _ ?_⟩
                           with_reducible exact r1 _ _
                           clear hK K))
                    refine wpQuiet_nil ?_
                    intro _ hw'
                    obtain ⟨⟨dq, osq⟩, hw''⟩ := hw'
                    subst hw''
                    have hq := below_regrown wc dq osq
                    go_wp2_with fail
                    go_meet
                    exact ⟨rfl, ⟨blk_below H3.out hq⟩, ⟨HBx.out.trans (hq.mono HBx.out.size)⟩, ⟨blk_below HKx.out hq⟩⟩
                  · have t3 : (nm.toList == ([] : List UInt8)) = false := beq_eq_false_iff_ne.2 q3
                    obtain rfl : bb = false := by rw [HBB.out]; exact decide_eq_false (by intro h; rcases h with h | h | h; exact h q1; exact q2 h; exact q3 h)
                    clear q1 q2 q3 HBB
                    have k0 := cell_regrown a0
                    have k1 := cell_regrown a1
                    have k2 := cell_regrown a2
                    have r1 : ∀ d os, Calls Tryd.prog 12 #[.slice (some ad) 512 c0] (Sort.grow (redrawn wc d) os) fun e w'' => e = .returned (.int .i64 sm) ∧ ∃ p : Regrown, w'' = Sort.grow (redrawn wc p.d) p.os := fun d os => Calls.regrown_of (su _ (HBx.out.trans ((below_regrown wc d os).mono HBx.out.size)))
                    clear su
                    refine wp_region_quiet_below (by kernel_rfl) (by kernel_rfl) ?_
                    repeat (
                      with_reducible refine wpQuiet_step ?_
                      intro K hK
                      go_simp
                      first
                        | (with_reducible refine hK _ ?_; clear hK K)
                        | (apply Exists.intro
                           refine ⟨fun _ => ?_, hK _ ?_⟩
                           with_reducible exact r1 _ _
                           clear hK K))
                    refine wpQuiet_nil ?_
                    intro _ hw'
                    obtain ⟨⟨dq, osq⟩, hw''⟩ := hw'
                    subst hw''
                    have hq := below_regrown wc dq osq
                    go_wp2_with fail
                    go_meet
                    exact ⟨rfl, ⟨blk_below H3.out hq⟩, ⟨HBx.out.trans (hq.mono HBx.out.size)⟩, ⟨blk_below HKx.out hq⟩⟩
              · have t1 : (n6 == sm) = false := beq_eq_false_iff_ne.2 q1
                have t1' : (n6 != sm) = true := by simp [q1]
                obtain rfl : bb = true := by rw [HBB.out]; exact decide_eq_true (Or.inl q1)
                clear q1 HBB
                have k0 := cell_regrown a0
                have k1 := cell_regrown a1
                have k2 := cell_regrown a2
                have r1 : ∀ d os, Calls Tryd.prog 12 #[.slice (some ad) 512 c0] (Sort.grow (redrawn wc d) os) fun e w'' => e = .returned (.int .i64 sm) ∧ ∃ p : Regrown, w'' = Sort.grow (redrawn wc p.d) p.os := fun d os => Calls.regrown_of (su _ (HBx.out.trans ((below_regrown wc d os).mono HBx.out.size)))
                clear su
                refine wp_region_quiet_below (by kernel_rfl) (by kernel_rfl) ?_
                repeat (
                  with_reducible refine wpQuiet_step ?_
                  intro K hK
                  go_simp
                  first
                    | (with_reducible refine hK _ ?_; clear hK K)
                    | (apply Exists.intro
                       refine ⟨fun _ => ?_, hK _ ?_⟩
                       with_reducible exact r1 _ _
                       clear hK K))
                refine wpQuiet_nil ?_
                intro _ hw'
                obtain ⟨⟨dq, osq⟩, hw''⟩ := hw'
                subst hw''
                have hq := below_regrown wc dq osq
                go_wp2_with fail
                go_meet
                exact ⟨rfl, ⟨blk_below H3.out hq⟩, ⟨HBx.out.trans (hq.mono HBx.out.size)⟩, ⟨blk_below HKx.out hq⟩⟩
            case rest =>
              obtain ⟨rfl, H3b, HBb, HKb⟩ := hcut
              clear a0 a1 a2 H3 HBx HKx HLx HN6
              cases hbv : bb with
              | true =>
                have hr := HR3.out
                rw [if_pos (of_decide_eq_true (HBB.out.symm.trans hbv))] at hr
                subst hr
                subst hbv
                have hbk := HKb.out
                have d0 := blk_cell hbk 0
                have d1 := blk_cell hbk 1
                have d2 := blk_cell hbk 2
                have d3 := blk_cell hbk 3
                have d4 := blk_cell hbk 4
                have f0 := blk_frozen hbk 0
                have f1 := blk_frozen hbk 1
                have f2 := blk_frozen hbk 2
                have f3 := blk_frozen hbk 3
                have f4 := blk_frozen hbk 4
                clear hbk
                go_wp2
                refine bodyPost_ret (results_ct rfl _ _ g 25 zero5 (0, 0) _ rfl (blk5 HKb.out) Tryd.underlying25 rfl (by kernel_rfl)) rfl ?_
                exact ⟨rfl, below5 HBb.out HGe.out _ _ _ _ _⟩
              | false =>
                have hr := HR3.out
                rw [if_neg (of_decide_eq_false (HBB.out.symm.trans hbv))] at hr
                subst hbv
                have tx : ∀ W, Below w.heap.size w W → Calls Tryd.prog 24 #[.slice (some (ad.add (fldAt 10))) (fldSz 10) (fldSz 10)] W fun e w' => e = .returned (.string pf) ∧ Below W.heap.size W w' := fun W hW => by rw [← HPF.out]; exact text_fld hl HC.out HBy.out 10 (by decide) W hW
                go_wp2_with fail
                refine (of_calls2 ad c0 10 _ (HF.out.below HBb.out) (by decide) hc1).mono ?_
                rintro e W6 ⟨rfl, hb6⟩
                have HB6 := Aside0.mk (HBb.out.trans (hb6.mono HBb.out.size))
                have HK6 := Aside0.mk (blk_below HKb.out hb6)
                have H36 := Aside0.mk (blk_below H3b.out hb6)
                clear HBb HKb H3b hb6
                go_wp2_with fail
                refine (tx _ HB6.out).mono ?_
                rintro e W7 ⟨rfl, hb7⟩
                have HB7 := Aside0.mk (HB6.out.trans (hb7.mono HB6.out.size))
                have hbk := blk_below HK6.out hb7
                have hbk3 := blk_below H36.out hb7
                have HK7 := Aside0.mk hbk
                have H37 := Aside0.mk hbk3
                clear HB6 HK6 H36 hb7 tx
                have d0 := blk_cell hbk 0
                have d1 := blk_cell hbk 1
                have d2 := blk_cell hbk 2
                have d3 := blk_cell hbk 3
                have d4 := blk_cell hbk 4
                have f0 := blk_frozen hbk 0
                have f1 := blk_frozen hbk 1
                have f2 := blk_frozen hbk 2
                have f3 := blk_frozen hbk 3
                have f4 := blk_frozen hbk 4
                have u0 := blk_cell hbk3 0
                have u1 := blk_cell hbk3 1
                have u2 := blk_cell hbk3 2
                have u3 := blk_cell hbk3 3
                have u4 := blk_cell hbk3 4
                have v0 := blk_frozen hbk3 0
                have v1 := blk_frozen hbk3 1
                have v2 := blk_frozen hbk3 2
                have v3 := blk_frozen hbk3 3
                have v4 := blk_frozen hbk3 4
                clear hbk hbk3
                have hne := HN3.out
                have hne' := Ne.symm hne
                have hpz := HPZ.out
                have hnz := HNZ.out
                unfold slash kindOf at hr
                by_cases q1 : pf.toList = []
                · by_cases q2 : kd = 0
                  · rw [if_pos q1, if_pos q2] at hr
                    subst hr
                    have p1 : (pf.toList == ([] : List UInt8)) = true := beq_iff_eq.2 q1
                    have p2 : (kd == 0) = true := beq_iff_eq.2 q2
                    clear q1 q2
                    go_wp2
                    refine bodyPost_ret (results_ct rfl _ _ g 25 #[.string nm, .string lk, .int .i64 (bits .and .i64 n1 4095), .int .i64 n4, .int .u8 48] (0, 0) _ rfl (blk5 (blk_far (p := ⟨g3, 4, none⟩) HK7.out hne _)) Tryd.underlying25 rfl (by kernel_rfl)) rfl ?_
                    exact ⟨rfl, below5 (HB7.out.setCell (p := ⟨g3, 4, none⟩) HG3.out _) HGe.out _ _ _ _ _⟩
                  · rw [if_pos q1, if_neg q2] at hr
                    subst hr
                    have p1 : (pf.toList == ([] : List UInt8)) = true := beq_iff_eq.2 q1
                    have p2 : (kd == 0) = false := beq_eq_false_iff_ne.2 q2
                    clear q1 q2
                    go_wp2
                    refine bodyPost_ret (results_ct rfl _ _ g 25 #[.string nm, .string lk, .int .i64 (bits .and .i64 n1 4095), .int .i64 n4, .int .u8 kd] (0, 0) _ rfl (blk5 HK7.out) Tryd.underlying25 rfl (by kernel_rfl)) rfl ?_
                    exact ⟨rfl, below5 HB7.out HGe.out _ _ _ _ _⟩
                · by_cases q2 : kd = 0
                  · rw [if_neg q1, if_pos q2] at hr
                    subst hr
                    have p1 : (pf.toList == ([] : List UInt8)) = false := beq_eq_false_iff_ne.2 q1
                    have p2 : (kd == 0) = true := beq_iff_eq.2 q2
                    clear q1 q2
                    go_wp2
                    refine bodyPost_ret (results_ct rfl _ _ g 25 #[.string ((pf ++ (⟨#[47]⟩ : ByteArray)) ++ nm), .string lk, .int .i64 (bits .and .i64 n1 4095), .int .i64 n4, .int .u8 48] (0, 0) _ rfl (blk5 (blk_far (p := ⟨g3, 4, none⟩) (blk_far (p := ⟨g3, 0, none⟩) HK7.out hne _) hne _)) Tryd.underlying25 rfl (by kernel_rfl)) rfl ?_
                    exact ⟨rfl, below5 ((HB7.out.setCell (p := ⟨g3, 0, none⟩) HG3.out _).setCell (p := ⟨g3, 4, none⟩) HG3.out _) HGe.out _ _ _ _ _⟩
                  · rw [if_neg q1, if_neg q2] at hr
                    subst hr
                    have p1 : (pf.toList == ([] : List UInt8)) = false := beq_eq_false_iff_ne.2 q1
                    have p2 : (kd == 0) = false := beq_eq_false_iff_ne.2 q2
                    clear q1 q2
                    go_wp2
                    refine bodyPost_ret (results_ct rfl _ _ g 25 #[.string ((pf ++ (⟨#[47]⟩ : ByteArray)) ++ nm), .string lk, .int .i64 (bits .and .i64 n1 4095), .int .i64 n4, .int .u8 kd] (0, 0) _ rfl (blk5 (blk_far (p := ⟨g3, 0, none⟩) HK7.out hne _)) Tryd.underlying25 rfl (by kernel_rfl)) rfl ?_
                    exact ⟨rfl, below5 (HB7.out.setCell (p := ⟨g3, 0, none⟩) HG3.out _) HGe.out _ _ _ _ _⟩
    · rw [if_pos (Or.inr hu)] at hr
      subst hr
      have t3 : (s.toList == ([117, 115, 116, 97, 114, 0, 48, 48] : List UInt8)) = false := by
        rw [beq_eq_false_iff_ne]; exact fun h => hu (h.trans (by decide +kernel))
      clear hu
      go_wp2
      refine bodyPost_ret (results_ct rfl _ _ g 25 zero5 (0, 0) _ rfl (blk5 HK.out) Tryd.underlying25 rfl (by kernel_rfl)) rfl ?_
      exact ⟨rfl, below5 HB.out HGe.out _ _ _ _ _⟩
  · rw [if_pos (Or.inl hl)] at hr
    subst hr
    have t1 : ((l0.length : Int) == 512) = false := by simp; omega
    have t2 : ((l0.length : Int) != 512) = true := by simp; omega
    go_enter Tryd.func10, Tryd.ntmps10
    go_upto_region 1 with fail
    rw [← hW1]
    rw [← hg] at hbk ⊢
    have d0 := blk_cell hbk 0
    have d1 := blk_cell hbk 1
    have d2 := blk_cell hbk 2
    have d3 := blk_cell hbk 3
    have d4 := blk_cell hbk 4
    have f0 := blk_frozen hbk 0
    have f1 := blk_frozen hbk 1
    have f2 := blk_frozen hbk 2
    have f3 := blk_frozen hbk 3
    have f4 := blk_frozen hbk 4
    have HB := Aside0.mk hB1
    have HK := Aside0.mk hbk
    clear hW1 hB1 hbk hg
    go_wp2
    refine bodyPost_ret (results_ct rfl _ _ g 25 zero5 (0, 0) _ rfl (blk5 HK.out) Tryd.underlying25 rfl (by kernel_rfl)) rfl ?_
    exact ⟨rfl, below5 HB.out HGe.out _ _ _ _ _⟩
end Go.Proofs.YteblbggmchcijaaDoor.PAll
end
section
/- head.Parse's contract in the print's form. -/
namespace Go.Proofs.YteblbggmchcijaaDoor.PAll
open Go.RowKit Go.Lib Go.Proofs.YteblbggmchcijaaDoor Go.Proofs.YteblbggmchcijaaDoorW.PrintWords Go.Proofs.YteblbggmchcijaaDoorW.PrintLast Go.Proofs.YteblbggmchcijaaDoorW.PrintMore
def head_Parse.f (l0 : List Int) : Option (ByteArray × ByteArray × Int × Int × Int × Int) := if byteB l0 then some (parseP l0) else none
theorem head_Parse.calls (A0 : Option Addr) (c0 : Nat) (l0 : List Int) (r1 r2 : ByteArray) (r3 r4 r5 r6 : Int) (w : World) (hr0 : Kd.C (Kd.int .u8) w A0 l0.length l0) (hc0 : l0.length ≤ c0) (h : head_Parse.f l0 = some (r1, r2, r3, r4, r5, r6)) (hLD : Fields w) :
    Calls Tryd.prog 10 #[.slice A0 l0.length c0] w fun e w' => e = .returned (.tuple #[.agg #[.string r1, .string r2, .int .i64 r3, .int .i64 r4, .int .u8 r5], .int .i64 r6]) ∧ Below w.heap.size w w' := by
  unfold head_Parse.f at h
  split at h
  · rename_i hc
    have h := Option.some.inj h
    have := parse_calls A0 c0 l0 w hLD hr0 hc0 (byteB_iff.1 hc)
    rw [h] at this
    exact this
  · cases h
end Go.Proofs.YteblbggmchcijaaDoor.PAll
end
section
/- The reference's Parse is head.Parse. -/
namespace Go.Proofs.YteblbggmchcijaaDoor.PAll
open Go.RowKit Go.Lib Go.Proofs.YteblbggmchcijaaDoor Go.Proofs.YteblbggmchcijaaDoorW.PrintWords Go.Proofs.YteblbggmchcijaaDoorW.PrintLast Go.Proofs.YteblbggmchcijaaDoorW.PrintMore
set_option linter.unusedVariables false
set_option linter.unusedSimpArgs false

theorem Ev.pos {α : Type} {c : Prop} [Decidable c] {A B : Nat → Option α} {r : α} (h : c) (k : Ev A r) : Ev (fun k => if c then A k else B k) r := by simpa [h] using k
theorem Ev.neg {α : Type} {c : Prop} [Decidable c] {A B : Nat → Option α} {r : α} (h : ¬ c) (k : Ev B r) : Ev (fun k => if c then A k else B k) r := by simpa [h] using k
theorem Ev.val {α : Type} (r : α) : Ev (fun _ => Option.some r) r := ⟨0, fun _ _ => rfl⟩
theorem Ev.succ {α : Type} {g : Nat → Option α} {r : α} (h : Ev (fun k => g (k + 1)) r) : Ev g r := Ev.step (fun _ => rfl) h
theorem Ev.const {α : Type} {g : Option α} {r : α} (h : g = Option.some r) : Ev (fun _ => g) r := ⟨0, fun _ _ => h⟩

theorem octGo_range : ∀ (l : List Int) (i : Nat) (n : Int), i ≤ 11 → 0 ≤ n → n < 8 ^ i → 0 ≤ (octGo l i n).1 ∧ (octGo l i n).1 < 8589934592
  | [], i, n, hi, h0, h => by simp [octGo]
  | c :: l, i, n, hi, h0, h => by
    have h8 : (8 : Int) ^ i ≤ 8589934592 := by
      have : (8 : Int) ^ i ≤ 8 ^ 11 := by exact_mod_cast Nat.pow_le_pow_right (by decide) hi
      simpa using this
    unfold octGo
    split
    · rename_i hc
      exact octGo_range l (i + 1) _ (by omega) (by omega) (by rw [Int.pow_succ]; omega)
    · split
      · simp
      · exact ⟨h0, by omega⟩
theorem octP_range (l : List Int) : 0 ≤ (octP l).1 ∧ (octP l).1 < 8589934592 := octGo_range _ 0 0 (by omega) (by omega) (by simp)
theorem and4095 (x : Int) (h0 : 0 ≤ x) (h : x < 8589934592) : bits .and .i64 x 4095 = Int.tmod x 4096 := by
  rw [Int.tmod_eq_emod_of_nonneg h0]
  have := bits_mask .i64 40 (by decide) (fun n h0 h1 => by rw [IntKind.wrap_i64]; omega) 12 (by decide) x h0 (by omega)
  simpa using this
theorem text_ref (l : List Int) (hl : l.length ≤ 140737488355328) : Ev (fun k => sutlerref13_text.f k l) (textL l) :=
  ⟨l.length + 1, fun k hk => by
    have := text_l0 l hl k 0 (by omega) (by omega)
    simpa [sutlerref13_text.f, textL] using this⟩
theorem fld_eq (l : List Int) (i a b : Nat) (ha : fldAt i = a) (hb : a + fldSz i = b) : (l.take b).drop a = fldL l i := by
  unfold fldL
  rw [List.drop_take, ha, ← hb, Nat.add_sub_cancel_left]

theorem parse_j1 (l : List Int) (hl : l.length = 512) (m s : Int) (hm0 : 0 ≤ m) (hm : m < 8589934592) :
    Ev (fun k => sutlerref13_Parse.j1 k l m s false) (if (textL (fldL l 0)).toList = [] then bad6 else (slash (textL (fldL l 10)) (textL (fldL l 0)), textL (fldL l 8), bits .and .i64 m 4095, s, kindOf (rd l 156), 0)) := by
  have e0 : l.take 100 = fldL l 0 := by simpa using fld_eq l 0 0 100 rfl rfl
  have e8 : (l.take 257).drop 157 = fldL l 8 := fld_eq l 8 157 257 rfl rfl
  have e10 : (l.take 500).drop 345 = fldL l 10 := fld_eq l 10 345 500 rfl rfl
  have l0 := fldL_length hl 0 (by omega)
  have l8 := fldL_length hl 8 (by omega)
  have l10 := fldL_length hl 10 (by omega)
  have z0 := textL_size (fldL l 0)
  have z10 := textL_size (fldL l 10)
  have f0 : fldSz 0 = 100 := rfl
  have f8 : fldSz 8 = 100 := rfl
  have f10 : fldSz 10 = 155 := rfl
  refine Ev.succ ?_
  simp only [sutlerref13_Parse.j1, Bool.false_eq_true, if_false, e0, e8, e10]
  · rw [and4095 m hm0 hm]
    refine Ev.pos (by omega) ?_
    refine Ev.bind (text_ref _ (by omega)) ?_
    refine Ev.pos (by omega) ?_
    refine Ev.pos (by omega) ?_
    refine Ev.bind (text_ref _ (by omega)) ?_
    by_cases h0 : (textL (fldL l 0)).toList = []
    · rw [if_pos h0]
      exact Ev.pos h0 (Ev.val _)
    · rw [if_neg h0]
      refine Ev.neg h0 ?_
      by_cases h10 : (textL (fldL l 10)).toList = []
      · refine Ev.pos h10 ?_
        refine Ev.pos (by omega) ?_
        by_cases hk : rd l 156 = 0
        · refine Ev.pos hk ?_
          refine Ev.pos (by omega) ?_
          refine Ev.pos (by omega) ?_
          refine Ev.bind (text_ref _ (by omega)) ?_
          unfold slash kindOf
          rw [if_pos h10, if_pos hk]
          exact Ev.val _
        · refine Ev.neg hk ?_
          refine Ev.pos (by omega) ?_
          refine Ev.pos (by omega) ?_
          refine Ev.bind (text_ref _ (by omega)) ?_
          unfold slash kindOf
          rw [if_pos h10, if_neg hk]
          exact Ev.val _
      · refine Ev.neg h10 ?_
        refine Ev.pos (by omega) ?_
        refine Ev.pos (by rw [ByteArray.size_append]; have : (⟨#[47]⟩ : ByteArray).size = 1 := rfl; omega) ?_
        refine Ev.pos (by omega) ?_
        by_cases hk : rd l 156 = 0
        · refine Ev.pos hk ?_
          refine Ev.pos (by omega) ?_
          refine Ev.pos (by omega) ?_
          refine Ev.bind (text_ref _ (by omega)) ?_
          unfold slash kindOf
          rw [if_neg h10, if_pos hk]
          exact Ev.val _
        · refine Ev.neg hk ?_
          refine Ev.pos (by omega) ?_
          refine Ev.pos (by omega) ?_
          refine Ev.bind (text_ref _ (by omega)) ?_
          unfold slash kindOf
          rw [if_neg h10, if_neg hk]
          exact Ev.val _
theorem parse_j1t (l : List Int) (m s : Int) : Ev (fun k => sutlerref13_Parse.j1 k l m s true) bad6 := by
  refine Ev.some fun k => ?_
  simp only [sutlerref13_Parse.j1]
  rw [if_pos trivial]; rfl
theorem parse_j0t (l : List Int) : Ev (fun k => sutlerref13_Parse.j0 k l true) bad6 := by
  refine Ev.some fun k => ?_
  simp only [sutlerref13_Parse.j0]
  rw [if_pos trivial]; rfl
theorem parse_j0 (l : List Int) (hl : l.length = 512) (hb : AreBytes l) (h9 : (strOfNums (fldL l 9)).toList = ustar.toList) : Ev (fun k => sutlerref13_Parse.j0 k l false) (parseP l) := by
  have e1 : (l.take 108).drop 100 = fldL l 1 := fld_eq l 1 100 108 rfl rfl
  have e4 : (l.take 136).drop 124 = fldL l 4 := fld_eq l 4 124 136 rfl rfl
  have e6 : (l.take 156).drop 148 = fldL l 6 := fld_eq l 6 148 156 rfl rfl
  have l1 := fldL_length hl 1 (by omega)
  have l4 := fldL_length hl 4 (by omega)
  have l6 := fldL_length hl 6 (by omega)
  have f1 : fldSz 1 = 8 := rfl
  have f4 : fldSz 4 = 12 := rfl
  have f6 : fldSz 6 = 8 := rfl
  unfold parseP
  rw [if_neg (by rintro (h | h); · exact h hl
                 · exact h h9)]
  refine Ev.succ ?_
  simp only [sutlerref13_Parse.j0, Bool.false_eq_true, if_false, e1, e4, e6]
  refine Ev.pos (by omega) ?_
  refine Ev.pos (by omega) ?_
  refine Ev.bind (octal_ref _ (by omega)) ?_
  refine Ev.pos (by omega) ?_
  refine Ev.pos (by omega) ?_
  refine Ev.bind (octal_ref _ (by omega)) ?_
  refine Ev.pos (by omega) ?_
  refine Ev.pos (by omega) ?_
  refine Ev.bind (octal_ref _ (by omega)) ?_
  by_cases h1 : (octP (fldL l 1)).2 = 0
  · refine Ev.pos h1 ?_
    by_cases h4 : (octP (fldL l 4)).2 = 0
    · refine Ev.pos h4 ?_
      by_cases h6 : (octP (fldL l 6)).2 = 0
      · refine Ev.pos h6 ?_
        rw [if_neg (by rintro (h | h | h); · exact h h1
                       · exact h h4
                       · exact h h6)]
        have hs := sum_ref l (by omega) hb
        rw [hl] at hs
        refine Ev.bind hs ?_
        by_cases h7 : (octP (fldL l 6)).1 = sumTo l 512
        · refine Ev.pos h7 ?_
          by_cases h8 : 262144 < (octP (fldL l 4)).1
          · rw [if_pos (Or.inr (Or.inl h8)), decide_eq_true (by omega)]
            exact parse_j1t _ _ _
          · rw [decide_eq_false (by omega)]
            have := parse_j1 l hl (octP (fldL l 1)).1 (octP (fldL l 4)).1 (octP_range _).1 (octP_range _).2
            by_cases h0 : (textL (fldL l 0)).toList = []
            · rw [if_pos (Or.inr (Or.inr h0))]
              rw [if_pos h0] at this
              exact this
            · rw [if_neg (by rintro (h | h | h); · exact h h7
                             · exact h8 h
                             · exact h0 h)]
              rw [if_neg h0] at this
              exact this
        · rw [if_pos (Or.inl h7)]
          exact Ev.neg h7 (parse_j1t _ _ _)
      · rw [if_pos (Or.inr (Or.inr h6))]
        exact Ev.neg h6 (parse_j1t _ _ _)
    · rw [if_pos (Or.inr (Or.inl h4))]
      exact Ev.neg h4 (parse_j1t _ _ _)
  · rw [if_pos (Or.inl h1)]
    exact Ev.neg h1 (parse_j1t _ _ _)
theorem parse_ref (l : List Int) (hb : AreBytes l) : Ev (fun k => sutlerref13_Parse.f k l) (parseP l) := by
  unfold sutlerref13_Parse.f
  by_cases hl : l.length = 512
  · refine Ev.pos (by omega) (Ev.pos (by omega) (Ev.pos (by omega) ?_))
    have e9 : (l.take 265).drop 257 = fldL l 9 := fld_eq l 9 257 265 rfl rfl
    rw [e9]
    by_cases h9 : (strOfNums (fldL l 9)).toList = ustar.toList
    · have : ((strOfNums (fldL l 9)).toList != ([117, 115, 116, 97, 114, 0, 48, 48] : List UInt8)) = false := by
        rw [h9]; decide +kernel
      rw [this]
      exact parse_j0 l hl hb h9
    · have : ((strOfNums (fldL l 9)).toList != ([117, 115, 116, 97, 114, 0, 48, 48] : List UInt8)) = true := by
        rw [bne_iff_ne]
        intro h
        exact h9 (by rw [h]; decide +kernel)
      rw [this]
      unfold parseP
      rw [if_pos (Or.inr h9)]
      exact parse_j0t l
  · refine Ev.neg (by omega) ?_
    unfold parseP
    rw [if_pos (Or.inl hl)]
    exact parse_j0t l
end Go.Proofs.YteblbggmchcijaaDoor.PAll
end
