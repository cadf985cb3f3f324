/- Rows of bytes that are read; slices.Clone of bytes; append of bytes. -/
import Derived.Test.YtoojcgmdcbcenaaKeys
import Derived.Test.YtoojcgmdcbcenaaM1
import Derived.Test.YtoojcgmdcbcenaaWWords
import Derived.Test.YtoojcgmdcbcenaaWMore
import Derived.Test.YtoojcgmdcbcenaaE
import Derived.Maps.AppendAt
import Derived.WalkSpells
namespace Go.Proofs.Ytoojcgmdcbcenaa
open Go.RowKit Go.Proofs.YtoojcgmdcbcenaaW.PrintWords
set_option linter.unusedVariables false
set_option linter.unusedSimpArgs false
set_option maxRecDepth 100000

/-- Bytes that are read. -/
abbrev Rd (w : World) (A : Option Addr) (l : List Int) : Prop := Kd.C (Kd.int .u8) w A l.length l
theorem Rd.cells {w : World} {a : Addr} {l : List Int} (h : Rd w (some a) l) : ∀ j u, (bytes l)[j]? = some u → w.cell? (a.add j) = some u := by
  intro j u hu
  simp only [bytes, List.getElem?_map, Option.map_eq_some_iff] at hu
  obtain ⟨x, hx, rfl⟩ := hu
  have hj : j < l.length := (List.getElem?_eq_some_iff.1 hx).1
  obtain ⟨ad, e, hc⟩ := h.2.2 (by omega)
  cases e
  obtain ⟨c, hs, hr, hcell⟩ := hc j x hx
  have hr : c = [.int .u8 x] := hr
  subst hr
  have := hcell 0 _ rfl
  simpa [Kd.int, Kd.scalar] using this
theorem Rd.mk {w : World} {a : Addr} {l : List Int} (hl : l.length ≤ 9223372036854775807) (h : ∀ j u, (bytes l)[j]? = some u → w.cell? (a.add j) = some u) : Rd w (some a) l :=
  ⟨rfl, hl, fun _ => ⟨a, rfl, fun j p hp => ⟨[.int .u8 p], rfl, rfl, fun i u hu => by
    rcases i with _ | i
    · simp at hu
      subst hu
      have := h j (.int .u8 p) (by simp [bytes, hp])
      simpa [Kd.int, Kd.scalar] using this
    · simp at hu⟩⟩⟩
theorem Rd.nil (w : World) (A : Option Addr) : Rd w A [] := ⟨rfl, by simp, fun h => absurd h (by simp)⟩
theorem Rd.below {w w' : World} {A : Option Addr} {l : List Int} (h : Rd w A l) (hb : Below w.heap.size w w') : Rd w' A l := Kd.C_below h hb
/-- A row of bytes is read. -/
theorem own_rd {w : World} {base n c : Nat} {A : Option Addr} {l : List Int} (h : w.ownsRow base 5 1 (.slice A n c) l.length (bytes l)) : n = l.length ∧ n ≤ c ∧ Rd w A l := by
  have h0 := h
  obtain ⟨h1, h2⟩ := h
  rcases h2 with ⟨e, e2⟩ | ⟨g, cap, cur, e, hb, hg, h3, h4, h5, h6⟩
  · injection e with e1 e3 e4
    obtain rfl := List.eq_nil_of_length_eq_zero e2
    subst e1 e3 e4
    exact ⟨rfl, Nat.le_refl _, Rd.nil _ _⟩
  · injection e with e1 e3 e4
    subst e1 e3 e4
    refine ⟨rfl, h3, Rd.mk (by simp only [maxLen] at h4; omega) fun j u hu => ?_⟩
    exact h0.cells rfl j u hu
theorem own_val {w : World} {base : Nat} {v : Value} {l : List Int} (h : w.ownsRow base 5 1 v l.length (bytes l)) : ∃ A c, v = .slice A l.length c ∧ l.length ≤ c ∧ Rd w A l := by
  obtain ⟨A, c, rfl⟩ := own_slice h
  obtain ⟨h1, h2, h3⟩ := own_rd h
  exact ⟨A, c, rfl, h2, h3⟩
theorem addr_add (b o j : Nat) : (⟨b, o, none⟩ : Addr).add j = ⟨b, o + j, none⟩ := by
  unfold Addr.add
  split
  · rename_i h; simp_all
  · simp_all
/-- A part of a row is read. -/
theorem own_part {w : World} {base g n c : Nat} {l : List Int} (h : w.ownsRow base 5 1 (.slice (some ⟨g, 0, none⟩) n c) l.length (bytes l)) (i m : Nat) (hm : i + m ≤ l.length) : Rd w (some ⟨g, i, none⟩) ((l.drop i).take m) := by
  obtain ⟨h1, h2, h3⟩ := own_rd h
  have hl : l.length ≤ 9223372036854775807 := h3.2.1
  refine Rd.mk (by simp; omega) fun j u hu => ?_
  have e : (bytes ((l.drop i).take m))[j]? = some u := hu
  simp only [bytes, List.getElem?_map, Option.map_eq_some_iff] at e
  obtain ⟨x, hx, rfl⟩ := e
  have hj := (List.getElem?_eq_some_iff.1 hx).1
  simp only [List.length_take, List.length_drop] at hj
  rw [List.getElem?_take_of_lt (by omega), List.getElem?_drop] at hx
  have := h3.cells (i + j) (.int .u8 x) (by simp [bytes, hx])
  rw [addr_add] at this ⊢
  simpa using this

section
variable {ops : Array Oper} {o : Oper} {a : Act} {W : World} {Q : Exit → Act → World → Prop} {rest : List Oper}
/-- append(x, y...) of bytes. -/
theorem wpl_app (base : Nat) (hg : o.guard = none) (d x : Operand) (hop : o.op = Op.call { callee := Callee.builtin Builtin.append, args := #[d, x], argTypes := #[31, 31] })
    (v : Value) (acc zs : List Int) (A : Addr) (m c : Nat) (hd : a.eval d = v) (hx : a.eval x = .slice (some A) m c) (hm : zs.length = m) (hO : W.ownsRow base 5 1 v acc.length (bytes acc)) (hz : Rd W (some A) zs)
    (hbase : base ≤ W.heap.size) (hl : acc.length + zs.length ≤ 140737488355328)
    (hK : ∀ v1 w1, w1.ownsRow base 5 1 v1 (acc ++ zs).length (bytes (acc ++ zs)) → W.grownBy w1 v.ownBlock → (v1.ownBlock = v.ownBlock ∨ v1.ownBlock = some W.heap.size) → (v1 = .slice none 0 0 ↔ v = .slice none 0 0 ∧ m = 0) → wpList Try.prog ops Q rest (a.put o.dst v1) w1) : wpList Try.prog ops Q (o :: rest) a W := by
  obtain ⟨i0, hi, hz0, hz1, hz2⟩ := info5
  refine wpList_append_own_at (P := Try.prog) W hg d x 31 hop base 5 i0 (.int .u8 0) 1 1 Try.underlying31 hi hz0 hz1 hz2 rfl (by decide) v acc.length (bytes acc) hd hO A m c (bytes zs) hx (by simp [hm]) hz.cells (by intro u hu; simp [bytes] at hu; obtain ⟨z, _, rfl⟩ := hu; rfl) (by simp only [maxLen]; omega) (by omega) hbase ?_
  intro v1 w1 h1 h2 h3 h4
  refine hK v1 w1 ?_ h2 h4 h3
  have e : bytes (acc ++ zs) = bytes acc ++ bytes zs := by simp [bytes]
  rw [e, List.length_append, hm]
  exact h1
end

set_option maxHeartbeats 1000000 in
/-- slices.Clone. -/
theorem clone_calls {w : World} {A : Option Addr} {c : Nat} {l : List Int} (hr : Rd w A l) (hl : l.length ≤ 140737488355328) (hA : A = none → c = 0) :
    Calls Try.prog 45 #[.slice A l.length c] w fun e w' => ∃ v, e = .returned v ∧ w'.ownsRow w.heap.size 5 1 v l.length (bytes l) ∧ Below w.heap.size w w' ∧ (v = .slice none 0 0 ↔ A = none) := by
  cases A with
  | none =>
    have h0 : l = [] := by
      by_cases e : 0 < l.length
      · obtain ⟨ad, h, _⟩ := hr.2.2 e; cases h
      · exact List.length_eq_zero_iff.1 (by omega)
    obtain rfl := hA rfl
    subst h0
    clear hr hl hA
    have hq : ∀ w, (binOp .eql 31 (.slice none 0 0) (.slice none 0 0)).run Try.prog w = .ok (.bool true) w := fun w => by rw [Lib.run_eql_slice_nil (e := 5)]; rfl; exact Try.underlying31
    go_enter Try.func45, Try.ntmps45
    go_wp2
    go_ret
    exact ⟨_, rfl, World.ownsRow_nil _ _ _ _, Below.refl _ _, by simp⟩
  | some ad =>
    clear hA
    have hq : ∀ w, (binOp .eql 31 (.slice (some ad) l.length c) (.slice none 0 0)).run Try.prog w = .ok (.bool false) w := fun w => by rw [Lib.run_eql_slice_nil (e := 5)]; rfl; exact Try.underlying31
    have HR := Aside0.mk hr
    have HL := Aside0.mk hl
    have hO : (w.alloc (.cells #[] 5)).ownsRow w.heap.size 5 1 (.slice (some ⟨w.heap.size, 0, none⟩) 0 0) ([] : List Int).length (bytes []) := World.ownsRow_made w #[] 0 (Nat.le_refl _) (by simp [maxLen]) rfl
    have HO := Aside0.mk hO
    have HB := Aside0.mk ((Below.refl w.heap.size w).alloc (Nat.le_refl _) (.cells #[] 5))
    clear hr hl hO
    go_enter Try.func45, Try.ntmps45
    go_wp2_with (at_builtin; refine wpl_app w.heap.size rfl (.tmp 5) (.tmp 6) rfl (.slice (some ⟨w.heap.size, 0, none⟩) 0 0) [] l ad l.length c rfl rfl rfl HO.out (Rd.below HR.out HB.out) (by simp) (by simpa using HL.out) ?_; intro v1 w1 h1 h2 h3 h4; have H1 := Aside0.mk h1; have H2 := Aside0.mk h2; have H4 := Aside0.mk h4; clear h1 h2 h3 h4)
    go_ret
    refine ⟨v1, rfl, by simpa using H1.out, HB.out.grown H2.out (by simp) (by simp [Value.ownBlock]), ?_⟩
    have := H4.out
    simp at this ⊢
    exact this
end Go.Proofs.Ytoojcgmdcbcenaa
