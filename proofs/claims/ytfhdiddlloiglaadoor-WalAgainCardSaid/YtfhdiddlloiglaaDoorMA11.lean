/- Texts of this claim, one behind the other: M2, Fb, Fc, M3, Pk. -/
import Derived.Test.YtfhdiddlloiglaaDoorMA7
import Derived.Test.YtfhdiddlloiglaaDoorMA5
import Derived.Test.YtfhdiddlloiglaaDoorWWords
import Derived.Test.YtfhdiddlloiglaaDoorWMore
import Derived.Test.YtfhdiddlloiglaaDoorMA10
import Derived.Maps.AppendAt
import Derived.WalkSpells
section
/- Rows of bytes that are read; slices.Clone of bytes; append of bytes. -/
namespace Go.Proofs.YtfhdiddlloiglaaDoor
open Go.RowKit Go.Proofs.YtfhdiddlloiglaaDoorW.PrintWords
set_option linter.unusedVariables false
set_option linter.unusedSimpArgs false
set_option maxRecDepth 100000

/-- Bytes that are read. -/
abbrev Rd (w : World) (A : Option Addr) (l : List Int) : Prop := Kd.C (Kd.int .u8) w A l.length l
theorem Rd.cells {w : World} {a : Addr} {l : List Int} (h : Rd w (some a) l) : ∀ j u, (bytes l)[j]? = some u → w.cell? (a.add j) = some u := by
  intro j u hu
  simp only [bytes, List.getElem?_map, Option.map_eq_some_iff] at hu
  obtain ⟨x, hx, rfl⟩ := hu
  have hj : j < l.length := (List.getElem?_eq_some_iff.1 hx).1
  obtain ⟨ad, e, hc⟩ := h.2.2 (by omega)
  cases e
  obtain ⟨c, hs, hr, hcell⟩ := hc j x hx
  have hr : c = [.int .u8 x] := hr
  subst hr
  have := hcell 0 _ rfl
  simpa [Kd.int, Kd.scalar] using this
theorem Rd.mk {w : World} {a : Addr} {l : List Int} (hl : l.length ≤ 9223372036854775807) (h : ∀ j u, (bytes l)[j]? = some u → w.cell? (a.add j) = some u) : Rd w (some a) l :=
  ⟨rfl, hl, fun _ => ⟨a, rfl, fun j p hp => ⟨[.int .u8 p], rfl, rfl, fun i u hu => by
    rcases i with _ | i
    · simp at hu
      subst hu
      have := h j (.int .u8 p) (by simp [bytes, hp])
      simpa [Kd.int, Kd.scalar] using this
    · simp at hu⟩⟩⟩
theorem Rd.nil (w : World) (A : Option Addr) : Rd w A [] := ⟨rfl, by simp, fun h => absurd h (by simp)⟩
theorem Rd.below {w w' : World} {A : Option Addr} {l : List Int} (h : Rd w A l) (hb : Below w.heap.size w w') : Rd w' A l := Kd.C_below h hb
/-- A row of bytes is read. -/
theorem own_rd {w : World} {base n c : Nat} {A : Option Addr} {l : List Int} (h : w.ownsRow base 5 1 (.slice A n c) l.length (bytes l)) : n = l.length ∧ n ≤ c ∧ Rd w A l := by
  have h0 := h
  obtain ⟨h1, h2⟩ := h
  rcases h2 with ⟨e, e2⟩ | ⟨g, cap, cur, e, hb, hg, h3, h4, h5, h6⟩
  · injection e with e1 e3 e4
    obtain rfl := List.eq_nil_of_length_eq_zero e2
    subst e1 e3 e4
    exact ⟨rfl, Nat.le_refl _, Rd.nil _ _⟩
  · injection e with e1 e3 e4
    subst e1 e3 e4
    refine ⟨rfl, h3, Rd.mk (by simp only [maxLen] at h4; omega) fun j u hu => ?_⟩
    exact h0.cells rfl j u hu
theorem own_val {w : World} {base : Nat} {v : Value} {l : List Int} (h : w.ownsRow base 5 1 v l.length (bytes l)) : ∃ A c, v = .slice A l.length c ∧ l.length ≤ c ∧ Rd w A l := by
  obtain ⟨A, c, rfl⟩ := own_slice h
  obtain ⟨h1, h2, h3⟩ := own_rd h
  exact ⟨A, c, rfl, h2, h3⟩
theorem addr_add (b o j : Nat) : (⟨b, o, none⟩ : Addr).add j = ⟨b, o + j, none⟩ := by
  unfold Addr.add
  split
  · rename_i h; simp_all
  · simp_all
/-- A part of a row is read. -/
theorem own_part {w : World} {base g n c : Nat} {l : List Int} (h : w.ownsRow base 5 1 (.slice (some ⟨g, 0, none⟩) n c) l.length (bytes l)) (i m : Nat) (hm : i + m ≤ l.length) : Rd w (some ⟨g, i, none⟩) ((l.drop i).take m) := by
  obtain ⟨h1, h2, h3⟩ := own_rd h
  have hl : l.length ≤ 9223372036854775807 := h3.2.1
  refine Rd.mk (by simp; omega) fun j u hu => ?_
  have e : (bytes ((l.drop i).take m))[j]? = some u := hu
  simp only [bytes, List.getElem?_map, Option.map_eq_some_iff] at e
  obtain ⟨x, hx, rfl⟩ := e
  have hj := (List.getElem?_eq_some_iff.1 hx).1
  simp only [List.length_take, List.length_drop] at hj
  rw [List.getElem?_take_of_lt (by omega), List.getElem?_drop] at hx
  have := h3.cells (i + j) (.int .u8 x) (by simp [bytes, hx])
  rw [addr_add] at this ⊢
  simpa using this

section
variable {ops : Array Oper} {o : Oper} {a : Act} {W : World} {Q : Exit → Act → World → Prop} {rest : List Oper}
/-- append(x, y...) of bytes. -/
theorem wpl_app (base : Nat) (hg : o.guard = none) (d x : Operand) (hop : o.op = Op.call { callee := Callee.builtin Builtin.append, args := #[d, x], argTypes := #[44, 44] })
    (v : Value) (acc zs : List Int) (A : Addr) (m c : Nat) (hd : a.eval d = v) (hx : a.eval x = .slice (some A) m c) (hm : zs.length = m) (hO : W.ownsRow base 5 1 v acc.length (bytes acc)) (hz : Rd W (some A) zs)
    (hbase : base ≤ W.heap.size) (hl : acc.length + zs.length ≤ 140737488355328)
    (hK : ∀ v1 w1, w1.ownsRow base 5 1 v1 (acc ++ zs).length (bytes (acc ++ zs)) → W.grownBy w1 v.ownBlock → (v1.ownBlock = v.ownBlock ∨ v1.ownBlock = some W.heap.size) → (v1 = .slice none 0 0 ↔ v = .slice none 0 0 ∧ m = 0) → wpList Tryd.prog ops Q rest (a.put o.dst v1) w1) : wpList Tryd.prog ops Q (o :: rest) a W := by
  obtain ⟨i0, hi, hz0, hz1, hz2⟩ := info5
  refine wpList_append_own_at (P := Tryd.prog) W hg d x 44 hop base 5 i0 (.int .u8 0) 1 1 Tryd.underlying44 hi hz0 hz1 hz2 rfl (by decide) v acc.length (bytes acc) hd hO A m c (bytes zs) hx (by simp [hm]) hz.cells (by intro u hu; simp [bytes] at hu; obtain ⟨z, _, rfl⟩ := hu; rfl) (by simp only [maxLen]; omega) (by omega) hbase ?_
  intro v1 w1 h1 h2 h3 h4
  refine hK v1 w1 ?_ h2 h4 h3
  have e : bytes (acc ++ zs) = bytes acc ++ bytes zs := by simp [bytes]
  rw [e, List.length_append, hm]
  exact h1
end

set_option maxHeartbeats 1000000 in
/-- slices.Clone. -/
theorem clone_calls {w : World} {A : Option Addr} {c : Nat} {l : List Int} (hr : Rd w A l) (hl : l.length ≤ 140737488355328) (hA : A = none → c = 0) :
    Calls Tryd.prog 45 #[.slice A l.length c] w fun e w' => ∃ v, e = .returned v ∧ w'.ownsRow w.heap.size 5 1 v l.length (bytes l) ∧ Below w.heap.size w w' ∧ (v = .slice none 0 0 ↔ A = none) := by
  cases A with
  | none =>
    have h0 : l = [] := by
      by_cases e : 0 < l.length
      · obtain ⟨ad, h, _⟩ := hr.2.2 e; cases h
      · exact List.length_eq_zero_iff.1 (by omega)
    obtain rfl := hA rfl
    subst h0
    clear hr hl hA
    have hq : ∀ w, (binOp .eql 44 (.slice none 0 0) (.slice none 0 0)).run Tryd.prog w = .ok (.bool true) w := fun w => by rw [Lib.run_eql_slice_nil (e := 5)]; rfl; exact Tryd.underlying44
    go_enter Tryd.func45, Tryd.ntmps45
    go_wp2
    go_ret
    exact ⟨_, rfl, World.ownsRow_nil _ _ _ _, Below.refl _ _, by simp⟩
  | some ad =>
    clear hA
    have hq : ∀ w, (binOp .eql 44 (.slice (some ad) l.length c) (.slice none 0 0)).run Tryd.prog w = .ok (.bool false) w := fun w => by rw [Lib.run_eql_slice_nil (e := 5)]; rfl; exact Tryd.underlying44
    have HR := Aside0.mk hr
    have HL := Aside0.mk hl
    have hO : (w.alloc (.cells #[] 5)).ownsRow w.heap.size 5 1 (.slice (some ⟨w.heap.size, 0, none⟩) 0 0) ([] : List Int).length (bytes []) := World.ownsRow_made w #[] 0 (Nat.le_refl _) (by simp [maxLen]) rfl
    have HO := Aside0.mk hO
    have HB := Aside0.mk ((Below.refl w.heap.size w).alloc (Nat.le_refl _) (.cells #[] 5))
    clear hr hl hO
    go_enter Tryd.func45, Tryd.ntmps45
    go_wp2_with (at_builtin; refine wpl_app w.heap.size rfl (.tmp 5) (.tmp 6) rfl (.slice (some ⟨w.heap.size, 0, none⟩) 0 0) [] l ad l.length c rfl rfl rfl HO.out (Rd.below HR.out HB.out) (by simp) (by simpa using HL.out) ?_; intro v1 w1 h1 h2 h3 h4; have H1 := Aside0.mk h1; have H2 := Aside0.mk h2; have H4 := Aside0.mk h4; clear h1 h2 h3 h4)
    go_ret
    refine ⟨v1, rfl, by simpa using H1.out, HB.out.grown H2.out (by simp) (by simp [Value.ownBlock]), ?_⟩
    have := H4.out
    simp at this ⊢
    exact this
end Go.Proofs.YtfhdiddlloiglaaDoor
end
section
/- The checksum of bytes; numbers out of bytes and into them. -/
namespace Go.Proofs.YtfhdiddlloiglaaDoor
open Go.RowKit Go.Proofs.YtfhdiddlloiglaaDoorW.PrintWords
set_option linter.unusedVariables false
set_option linter.unusedSimpArgs false
set_option maxRecDepth 100000

theorem Rd.atF_ {w : World} {A : Option Addr} {l : List Int} (h : Rd w A l) {j : Nat} (hj : j < l.length) : ∃ a, A = some a ∧ w.cell? (a.add j) = some (.int .u8 (l.getD j 0)) := by
  obtain ⟨a, rfl, _⟩ := h.2.2 (by omega)
  refine ⟨a, rfl, Rd.cells h j _ ?_⟩
  rw [bytes, List.getElem?_map, List.getElem?_eq_getElem hj, List.getD_eq_getElem?_getD, List.getElem?_eq_getElem hj]
  rfl
theorem max_u32 : IntKind.u32.max = 4294967295 := by decide
theorem bits_not (s : BitVec 32) : bits .xor .u32 IntKind.u32.max (s.toNat : Int) = ((~~~s).toNat : Int) := by
  have := bits_xor (4294967295#32) s
  rw [show ((4294967295#32).toNat : Int) = 4294967295 from rfl] at this
  rw [max_u32, this, show (4294967295#32) = BitVec.allOnes 32 from rfl, BitVec.allOnes_xor]
set_option maxHeartbeats 1000000 in
theorem more_calls {w : World} (h : Half w) (s : BitVec 32) {A : Option Addr} {n c : Nat} {b : List Int} (hb : Rd w A b) (hn : b.length = n) (hby : Bytes b) : Calls Tryd.prog 69 #[u32 s, .slice A n c] w fun e w' => e = .returned (u32 (crcMore s b)) ∧ w' = w := by
  obtain ⟨s1, hs1⟩ : ∃ s1, s1 = ~~~ s := ⟨_, rfl⟩
  have h0 : bits .xor .u32 IntKind.u32.max (s.toNat : Int) = (s1.toNat : Int) := by rw [hs1]; exact bits_not s
  have HS1 := Aside0.mk hs1
  clear hs1
  have hsg : IntKind.u32.signed = false := rfl
  have HB := Aside0.mk hb
  have HN := Aside0.mk hn
  have HY := Aside0.mk hby
  have HH := Aside0.mk h
  have hn63 : n ≤ 9223372036854775807 := by rw [← hn]; exact hb.2.1
  clear hb hn hby h
  go_enter Tryd.func69, Tryd.ntmps69
  go_wp2_with fail
  go_loopw [5, 12] (fun v5 v12 W => ∃ i : Nat, v12 = .int .i64 (i : Int) ∧ i ≤ n ∧ v5 = u32 ((b.take i).foldl crcStep s1) ∧ W = w) (fun _ v12 _ => n - (RowKit.intOf v12).toNat)
  case atStart => exact ⟨0, rfl, Nat.zero_le _, rfl, rfl⟩
  case round =>
    obtain ⟨i, rfl, hi, rfl, rfl⟩ := hrel
    by_cases hin : i < n
    · have t1 : decide ((i : Int) < (n : Int)) = true := decide_eq_true (by omega)
      have t1' : (i : Int) < (n : Int) := by omega
      have hil : i < b.length := by rw [HN.out]; exact hin
      obtain ⟨a, rfl, hc⟩ := HB.out.atF_ hil
      obtain ⟨x, hx⟩ : ∃ x, x = b.getD i 0 := ⟨_, rfl⟩
      obtain ⟨q, hq⟩ : ∃ q, q = (b.take i).foldl crcStep s1 := ⟨_, rfl⟩
      obtain ⟨q1, hq1⟩ : ∃ q1, q1 = q ^^^ BitVec.ofInt 32 x := ⟨_, rfl⟩
      have hxr : 0 ≤ x ∧ x ≤ 255 := by
        rw [hx, List.getD_eq_getElem?_getD, List.getElem?_eq_getElem hil]; exact HY.out _ (List.getElem_mem hil)
      have hx1 : bits .xor .u32 (q.toNat : Int) x = (q1.toNat : Int) := by
        have e : x = ((BitVec.ofInt 32 x).toNat : Int) := by
          rw [BitVec.toNat_ofInt]; omega
        rw [hq1]
        conv => lhs; rw [e]
        exact bits_xor _ _
      have hw : IntKind.u32.wrap x = x := by simp only [IntKind.wrap, IntKind.bits, IntKind.signed]; simp; omega
      rw [← hx] at hc
      rw [← hq]
      have hT1 := turn_calls wr HH.out q1
      have hT2 := turn_calls wr HH.out (crcTurn q1)
      have hres : Aside0 (crcTurn (crcTurn q1) = (b.take (i + 1)).foldl crcStep s1) := ⟨by
        rw [List.take_succ_eq_append_getElem hil, List.foldl_append, ← hq]
        show _ = crcStep q b[i]
        rw [crcStep, hq1, hx, List.getD_eq_getElem?_getD, List.getElem?_eq_getElem hil]; rfl⟩
      clear hx hq hq1 hil
      go_wp2_with fail
      refine hT1.mono ?_
      rintro e W1 ⟨rfl, rfl⟩
      clear hT1
      go_wp2_with fail
      refine hT2.mono ?_
      rintro e W1 ⟨rfl, rfl⟩
      clear hT2
      go_wp2
      go_roundw
      case rel => exact ⟨i + 1, by go_num, hin, by rw [hres.out], by first | rfl | trivial⟩
      case measure => simp only [RowKit.intOf]; omega
    · have hie : i = n := by omega
      subst hie
      have t1 : decide ((i : Int) < (i : Int)) = false := decide_eq_false (by omega)
      obtain ⟨q, hq⟩ : ∃ q, q = (b.take i).foldl crcStep s1 := ⟨_, rfl⟩
      obtain ⟨r, hr⟩ : ∃ r, r = ~~~ q := ⟨_, rfl⟩
      have h9 : bits .xor .u32 IntKind.u32.max (q.toNat : Int) = (r.toNat : Int) := by rw [hr]; exact bits_not q
      have hres : Aside0 (r = crcMore s b) := ⟨by rw [hr, hq, List.take_of_length_le (by rw [HN.out]; omega), HS1.out]; rfl⟩
      rw [← hq]
      clear hq hr
      go_wp2
      go_ret
      exact ⟨by rw [← hres.out]; rfl, rfl⟩
theorem sum_calls {w : World} (h : Half w) {A : Option Addr} {n c : Nat} {b : List Int} (hb : Rd w A b) (hn : b.length = n) (hby : Bytes b) : Calls Tryd.prog 70 #[.slice A n c] w fun e w' => e = .returned (u32 (crcMore 0 b)) ∧ w' = w := by
  have hm := more_calls h 0 (c := c) hb hn hby
  clear h hb
  go_enter Tryd.func70, Tryd.ntmps70
  go_wp2_with fail
  refine hm.mono ?_
  rintro e W1 ⟨rfl, rfl⟩
  clear hm
  go_wp2
  go_ret
  exact ⟨rfl, rfl⟩
end Go.Proofs.YtfhdiddlloiglaaDoor
end
section
/- Numbers out of bytes and into them. -/
namespace Go.Proofs.YtfhdiddlloiglaaDoor
open Go.RowKit Go.Proofs.YtfhdiddlloiglaaDoorW.PrintWords
set_option linter.unusedVariables false
set_option linter.unusedSimpArgs false
set_option maxRecDepth 100000

theorem there_calls (w : World) (A : Option Addr) (n c i k : Nat) (hk : 1 ≤ k ∧ k ≤ 4) (hi : i + k ≤ n) (hn : n ≤ 1048576) : Calls Tryd.prog 66 #[.slice A n c, .int .i64 (i : Int), .int .i64 (k : Int)] w fun e w' => e = .returned (.bool true) ∧ w' = w := by
  have h1 : decide ((1 : Int) ≤ (k : Int)) = true := decide_eq_true (by omega)
  have h2 : decide ((k : Int) ≤ 4) = true := decide_eq_true (by omega)
  have h3 : decide ((0 : Int) ≤ (i : Int)) = true := decide_eq_true (by omega)
  have h4 : decide ((i : Int) ≤ (n : Int)) = true := decide_eq_true (by omega)
  have h5 : decide ((k : Int) ≤ (n : Int) - (i : Int)) = true := decide_eq_true (by omega)
  have wr : wrap64 ((n : Int) - (i : Int)) = (n : Int) - (i : Int) := by unfold wrap64; omega
  have g1 : (1 : Int) ≤ (k : Int) := by omega
  have g2 : (k : Int) ≤ 4 := by omega
  have g4 : (i : Int) ≤ (n : Int) := by omega
  have g5 : (k : Int) ≤ (n : Int) - (i : Int) := by omega
  go_enter Tryd.func66, Tryd.ntmps66
  go_wp2
  go_ret
  exact ⟨rfl, rfl⟩
theorem unle_app (a : List Int) (x : Int) : unle (a ++ [x]) = unle a + x * 256 ^ a.length := by
  induction a with
  | nil => show x + 256 * 0 = 0 + x * 1; omega
  | cons b r ih =>
    simp only [List.cons_append, unle, ih, List.length_cons, Int.pow_succ]
    rw [Int.mul_add, ← Int.add_assoc]
    congr 1
    rw [Int.mul_left_comm, Int.mul_comm 256]
theorem bits_or {a x : Int} (i : Nat) (h0 : 0 ≤ a) (h1 : a < 2 ^ i) (h2 : 0 ≤ x) (h3 : x * 2 ^ i < 4294967296) (h4 : i ≤ 31) : bits .or .u32 a (x * 2 ^ i) = a + x * 2 ^ i := by
  obtain ⟨n, rfl⟩ : ∃ n : Nat, a = n := ⟨a.toNat, by omega⟩
  obtain ⟨m, rfl⟩ : ∃ m : Nat, x = m := ⟨x.toNat, by omega⟩
  have h1' : n < 2 ^ i := Int.ofNat_lt.1 (by rw [Int.natCast_pow]; exact h1)
  have h3' : m * 2 ^ i < 4294967296 := Int.ofNat_lt.1 (by rw [Int.natCast_mul, Int.natCast_pow]; exact h3)
  have hp : 2 ^ i ≤ 2147483648 := Nat.le_trans (Nat.pow_le_pow_right (by decide) h4) (by decide)
  have e : ((m : Int) * 2 ^ i) = ((m * 2 ^ i : Nat) : Int) := by rw [Int.natCast_mul, Int.natCast_pow]; rfl
  rw [e]
  have hor : n ||| m * 2 ^ i = n + m * 2 ^ i := by
    have := Nat.shiftLeft_add_eq_or_of_lt h1' m
    rw [Nat.shiftLeft_eq] at this
    rw [Nat.or_comm, ← this, Nat.add_comm]
  generalize m * 2 ^ i = q at *
  show IntKind.u32.wrap ((BitVec.ofInt 32 (n : Int) ||| BitVec.ofInt 32 (q : Int)).toNat : Int) = _
  have hs : n + q < 4294967296 := by
    rw [← hor]
    exact Nat.or_lt_two_pow (n := 32) (Nat.lt_of_lt_of_le (Nat.lt_of_lt_of_le h1' hp) (by decide)) (Nat.lt_of_lt_of_le h3' (by decide))
  have hn : n < 4294967296 := by omega
  have e2 : (BitVec.ofInt 32 (n : Int) ||| BitVec.ofInt 32 (q : Int)).toNat = n + q := by
    rw [BitVec.toNat_or, BitVec.toNat_ofInt, BitVec.toNat_ofInt]
    have a1 : ((n : Int) % ((2 ^ 32 : Nat) : Int)).toNat = n := by omega
    have a2 : ((q : Int) % ((2 ^ 32 : Nat) : Int)).toNat = q := by omega
    rw [a1, a2, hor]
  rw [e2]
  simp only [IntKind.wrap, IntKind.bits, IntKind.signed]
  simp
  omega
set_option maxHeartbeats 1000000 in
theorem get_calls {w : World} {A : Option Addr} {n c i k : Nat} {b : List Int} (hb : Rd w A b) (hn : b.length = n) (hby : Bytes b) (hk : 1 ≤ k ∧ k ≤ 4) (hi : i + k ≤ n) (hn2 : n ≤ 1048576) :
    Calls Tryd.prog 52 #[.slice A n c, .int .i64 (i : Int), .int .i64 (k : Int)] w fun e w' => e = .returned (.tuple #[.int .i64 (getAt b i k), .int .i64 0]) ∧ w' = w := by
  have ht := there_calls w A n c i k hk hi hn2
  have HB := Aside0.mk hb
  have HN := Aside0.mk hn
  have HY := Aside0.mk hby
  have hsg : IntKind.u32.signed = false := rfl
  clear hb hn hby
  go_enter Tryd.func52, Tryd.ntmps52
  go_wp2_with fail
  refine ht.mono ?_
  rintro e W1 ⟨rfl, rfl⟩
  clear ht
  go_wp2_with fail
  go_loopw [8, 16] (fun v8 v16 W => ∃ j : Nat, v16 = .int .i64 (j : Int) ∧ j ≤ k ∧ v8 = .int .u32 (getAt b i j) ∧ W = W1) (fun _ v16 _ => k - (RowKit.intOf v16).toNat)
  case atStart => exact ⟨0, rfl, Nat.zero_le _, rfl, rfl⟩
  case round =>
    obtain ⟨j, rfl, hj, rfl, rfl⟩ := hrel
    by_cases hjk : j < k
    · have t1 : decide ((j : Int) < (k : Int)) = true := decide_eq_true (by omega)
      have t1' : (j : Int) < (k : Int) := by omega
      have hil : i + j < b.length := by rw [HN.out]; omega
      obtain ⟨a, rfl, hc⟩ := HB.out.atF_ hil
      obtain ⟨x, hx⟩ : ∃ x, x = b.getD (i + j) 0 := ⟨_, rfl⟩
      obtain ⟨y, hy⟩ : ∃ y, y = getAt b i j := ⟨_, rfl⟩
      have hxr : 0 ≤ x ∧ x ≤ 255 := by
        rw [hx, List.getD_eq_getElem?_getD, List.getElem?_eq_getElem hil]; exact HY.out _ (List.getElem_mem hil)
      have hw : IntKind.u32.wrap x = x := by simp only [IntKind.wrap, IntKind.bits, IntKind.signed]; simp; omega
      have hys : Bytes ((b.drop i).take j) := fun z hz => HY.out z (List.mem_of_mem_drop (List.mem_of_mem_take hz))
      have hyl : ((b.drop i).take j).length = j := by rw [List.length_take, List.length_drop]; omega
      have hy0 : 0 ≤ y := by rw [hy]; exact unle_nonneg hys
      have hy1 : y < 256 ^ j := by rw [hy]; have := unle_lt hys; rw [hyl] at this; exact this
      have hres : Aside0 (y + x * 256 ^ j = getAt b i (j + 1)) := ⟨by
        rw [hy, hx]
        unfold getAt
        have e : (b.drop i).take (j + 1) = (b.drop i).take j ++ [b.getD (i + j) 0] := by
          rw [List.take_succ_eq_append_getElem (by rw [List.length_drop]; omega), List.getElem_drop, List.getD_eq_getElem?_getD, List.getElem?_eq_getElem hil]; rfl
        rw [e, unle_app, hyl]⟩
      have wi : IntKind.i64.wrap ((i : Int) + (j : Int)) = ((i + j : Nat) : Int) := by rw [IntWalk.i64_in _ (by omega)]; omega
      have q1 : ((i + j : Nat) : Int) < (n : Int) := by omega
      rw [← hx] at hc
      rw [← hy]
      clear hx hy hys hyl
      have wm : IntKind.i64.wrap (8 * (j : Int)) = ((8 * j : Nat) : Int) := by rw [IntWalk.i64_in _ (by omega)]; omega
      have hpj : (2 : Int) ^ (8 * j) = 256 ^ j := by rw [Int.pow_mul]; rfl
      have hlt : x * 2 ^ (8 * j) < 4294967296 := by
        rw [hpj]
        have hj4 : j = 0 ∨ j = 1 ∨ j = 2 ∨ j = 3 := by omega
        rcases hj4 with rfl | rfl | rfl | rfl
        · show x * 1 < 4294967296; omega
        · show x * 256 < 4294967296; omega
        · show x * 65536 < 4294967296; omega
        · show x * 16777216 < 4294967296; omega
      have hge : 0 ≤ x * 2 ^ (8 * j) := Int.mul_nonneg hxr.1 (by rw [hpj]; exact Int.le_of_lt (Int.pow_pos (by decide)))
      have hor : Aside0 (bits .or .u32 y (x * 2 ^ (8 * j) % 4294967296) = y + x * 256 ^ j) := ⟨by
        rw [Int.emod_eq_of_lt hge hlt, bits_or (8 * j) hy0 (by rw [hpj]; exact hy1) hxr.1 hlt (by omega), hpj]⟩
      clear hpj hlt hge
      go_wp2
      go_roundw
      case rel => exact ⟨j + 1, by go_num, hjk, by rw [hor.out, hres.out], by first | rfl | trivial⟩
      case measure => simp only [RowKit.intOf]; omega
    · have hje : j = k := by omega
      subst hje
      have t1 : decide ((j : Int) < (j : Int)) = false := decide_eq_false (by omega)
      have hy0 : 0 ≤ getAt b i j := unle_nonneg fun z hz => HY.out z (List.mem_of_mem_drop (List.mem_of_mem_take hz))
      have hy1 : getAt b i j < 4294967296 := by
        have hys : Bytes ((b.drop i).take j) := fun z hz => HY.out z (List.mem_of_mem_drop (List.mem_of_mem_take hz))
        have h1 := unle_lt hys
        have h2 : ((b.drop i).take j).length = j := by rw [List.length_take, List.length_drop, HN.out]; omega
        rw [h2] at h1
        have hj4 : j = 1 ∨ j = 2 ∨ j = 3 ∨ j = 4 := by omega
        unfold getAt
        rcases hj4 with rfl | rfl | rfl | rfl
        · have e : (256 : Int) ^ 1 = 256 := by decide
          omega
        · have e : (256 : Int) ^ 2 = 65536 := by decide
          omega
        · have e : (256 : Int) ^ 3 = 16777216 := by decide
          omega
        · have e : (256 : Int) ^ 4 = 4294967296 := by decide
          omega
      obtain ⟨y, hy⟩ : ∃ y, y = getAt b i j := ⟨_, rfl⟩
      rw [← hy] at hy0 hy1 ⊢
      have HYY := Aside0.mk hy
      clear hy
      have hw : IntKind.i64.wrap y = y := by rw [IntWalk.i64_in _ (by omega)]
      go_wp2
      go_ret2
      exact ⟨by rw [← HYY.out]; rfl, rfl⟩
end Go.Proofs.YtfhdiddlloiglaaDoor
end
section
/- The disk's value, Sure, Read, Pending, written. -/
namespace Go.Proofs.YtfhdiddlloiglaaDoor
open Go.RowKit Go.Maps Go.Proofs.YtfhdiddlloiglaaDoorW.PrintWords
set_option linter.unusedVariables false
set_option linter.unusedSimpArgs false
set_option maxRecDepth 100000

theorem flat_len {f : List Sec → Sec} : ∀ {l : List (List Sec)}, (∀ x ∈ l, (f x).length = 256) → (l.flatMap f).length = l.length * 256
  | [], _ => rfl
  | a :: r, h => by
    rw [List.flatMap_cons, List.length_append, h a (by simp), flat_len (l := r) (fun x hx => h x (by simp [hx])), List.length_cons]; omega
theorem flat_part {f : List Sec → Sec} : ∀ {l : List (List Sec)} (i : Nat), (∀ x ∈ l, (f x).length = 256) → i < l.length → ((l.flatMap f).drop (i * 256)).take 256 = f (l.getD i [])
  | [], i, _, h => absurd h (by simp)
  | a :: r, 0, h, _ => by
    have := h a (by simp)
    simp only [List.flatMap_cons, Nat.zero_mul, List.drop_zero, List.getD_cons_zero]
    rw [List.take_append_of_le_length (by omega), List.take_of_length_le (by omega)]
  | a :: r, i + 1, h, hi => by
    have h1 := h a (by simp)
    have e : (i + 1) * 256 = 256 + i * 256 := by omega
    rw [List.flatMap_cons, e, ← List.drop_drop, List.drop_left' h1, List.getD_cons_succ]
    exact flat_part i (fun x hx => h x (by simp [hx])) (by simpa using hi)
theorem Dsk.Ok.get {d : Dsk} (h : d.Ok) {i : Nat} (hi : i < d.vals.length) : d.vals.getD i [] ∈ d.vals := by
  rw [List.getD_eq_getElem?_getD, List.getElem?_eq_getElem hi]; exact List.getElem_mem hi
theorem Dsk.Ok.head {d : Dsk} (h : d.Ok) : ∀ x ∈ d.vals, (headOf x).length = 256 := fun x hx => (h.sec x hx _ (headOf_mem (h.ne x hx))).1
theorem Dsk.Ok.last {d : Dsk} (h : d.Ok) : ∀ x ∈ d.vals, (lastOf x).length = 256 := fun x hx => (h.sec x hx _ (lastOf_mem (h.ne x hx))).1
theorem Dsk.Ok.sure_len {d : Dsk} (h : d.Ok) : d.sure.length = d.vals.length * 256 := flat_len h.head
theorem Dsk.Ok.image_len {d : Dsk} (h : d.Ok) : d.image.length = d.vals.length * 256 := flat_len h.last
theorem Dsk.Ok.pos {d : Dsk} (h : d.Ok) {i : Nat} (hi : i < d.vals.length) : 0 < (d.vals.getD i []).length := List.length_pos_iff.2 (h.ne _ (h.get hi))
theorem headOf_get (l : List Sec) : headOf l = l.getD 0 [] := by cases l <;> rfl
theorem lastOf_get (l : List Sec) : lastOf l = l.getD (l.length - 1) [] := by
  rw [lastOf, List.getLastD_eq_getLast?, List.getLast?_eq_getElem?, List.getD_eq_getElem?_getD]

theorem zero31 (w : World) : (zeroValue 44).run Tryd.prog w = .ok (.slice none 0 0) w := by kernel_rfl
theorem zero3 (w : World) : (zeroValue 3).run Tryd.prog w = .ok (.int .i64 0) w := by kernel_rfl
theorem le_of_wf {k : Nat} (h : (Lit.int .i64 (k : Int)).wf = true) : k ≤ 9223372036854775807 := by
  simp [Lit.wf, IntKind.min, IntKind.max, IntKind.bits, IntKind.signed] at h
  omega
section
variable {w0 w : World} {p : Nat} {d : Dsk} {L : List Res}
theorem DiskIs.sureRow {x : DX} (h : DiskIs w p d x) : w.ownsRow 0 5 1 (.slice (some ⟨x.a, 0, none⟩) (d.vals.length * 256) x.cap) d.sure.length (bytes d.sure) := by
  rw [h.ok.sure_len]; exact h.sure
/-- One of a sector's values: the lookup in the map. -/
theorem DiskIs.fresh {x : DX} (h : DiskIs w p d x) {i k : Nat} (hi : i < d.vals.length) (h1 : 1 ≤ k) (hk : k < (d.vals.getD i []).length) (hb : k ≤ 9223372036854775807) :
    ∃ b c, (Instr.lookup 80 (.map (some x.mf)) (.agg #[.int .i64 (i : Nat), .int .i64 (k : Nat)]) false).run Tryd.prog w = .ok (.slice (some ⟨b, 0, none⟩) 256 c) w ∧ w.ownsRow 0 5 1 (.slice (some ⟨b, 0, none⟩) 256 c) 256 (bytes ((d.vals.getD i []).getD k [])) := by
  have hn := h.ok.n2
  obtain ⟨b, c, h3, h4⟩ := h.vals i k _ h1 (List.getElem?_eq_getElem hk)
  obtain ⟨v, ps, hrun, hv⟩ := h.mf.lookup (t := 80) K73 Tryd.underlying80 (zero31 w) rdVal_nil (spot_key (a := (i : Nat)) (b := (k : Nat)) (wf64 (by omega) (by omega)) (wf64 (by omega) (by omega)))
  rw [h3] at hv
  obtain rfl := rdVal_inv hv
  refine ⟨b, c, hrun, ?_⟩
  rw [List.getD_eq_getElem?_getD, List.getElem?_eq_getElem hk]
  exact h4
/-- How often a sector was written: the lookup in the map. -/
theorem DiskIs.often {x : DX} (h : DiskIs w p d x) {i : Nat} (hi : i < d.vals.length) :
    (Instr.lookup 81 (.map (some x.mm)) (.int .i64 (i : Nat)) false).run Tryd.prog w = .ok (.int .i64 ((d.vals.getD i []).length - 1 : Nat)) w ∧ ((d.vals.getD i []).length - 1 : Nat) ≤ 9223372036854775807 := by
  have hn := h.ok.n2
  obtain ⟨c, hrun, hat, hw⟩ := h.mm.lookup_int (t := 81) K3 Tryd.underlying81 Tryd.underlying3 (zero3 w) (keyOf_int_mk Tryd.underlying3 (wf64 (x := (i : Nat)) (by omega) (by omega)))
  rw [h.many.at_ i hi] at hat
  injection hat with hat
  injection hat with _ hat
  subst hat
  refine ⟨hrun, ?_⟩
  exact le_of_wf hw
theorem own_256 {w : World} {b c : Nat} {s : Sec} (hs : s.length = 256) (h : w.ownsRow 0 5 1 (.slice (some ⟨b, 0, none⟩) 256 c) 256 (bytes s)) : 256 ≤ c ∧ Rd w (some ⟨b, 0, none⟩) s := by
  rw [← hs] at h
  obtain ⟨h1, h2, h3⟩ := own_rd h
  exact ⟨by omega, h3⟩
set_option maxHeartbeats 1000000 in
/-- The sure value, out of a row of bytes. -/
theorem value0_calls {w : World} {p i n c : Nat} {g : Nat} {bs : List Int} (c0 : w.cell? ⟨p, 0, none⟩ = some (.slice (some ⟨g, 0, none⟩) n c)) (hrow : w.ownsRow 0 5 1 (.slice (some ⟨g, 0, none⟩) n c) bs.length (bytes bs)) (hi : i * 256 + 256 ≤ bs.length) (hn : bs.length ≤ 1048576) :
    Calls Tryd.prog 46 #[.pointer (some ⟨p, 0, none⟩), .int .i64 (i : Nat), .int .i64 0] w fun e w' => ∃ a c, e = .returned (.slice (some a) 256 c) ∧ 256 ≤ c ∧ Rd w (some a) ((bs.drop (i * 256)).take 256) ∧ w' = w := by
  obtain ⟨e1, hcap, _⟩ := own_rd hrow
  have hpart := own_part hrow (i * 256) 256 (by omega)
  obtain ⟨lo, hlo⟩ : ∃ lo : Nat, lo = i * 256 := ⟨_, rfl⟩
  obtain ⟨i1, hi1⟩ : ∃ i1 : Nat, i1 = i + 1 := ⟨_, rfl⟩
  obtain ⟨h1, hh1⟩ : ∃ h1 : Nat, h1 = lo + 256 := ⟨_, rfl⟩
  have wr1 : wrap64 ((i : Int) * 256) = (lo : Int) := by unfold wrap64; omega
  have wr2 : wrap64 ((i : Int) + 1) = (i1 : Int) := by unfold wrap64; omega
  have wr3 : wrap64 ((i1 : Int) * 256) = (h1 : Int) := by unfold wrap64; omega
  have q1 : (0 : Int) ≤ (lo : Int) := by omega
  have q2 : (lo : Int) ≤ (h1 : Int) := by omega
  have q3 : (h1 : Int) ≤ (c : Int) := by omega
  have q4 : (0 : Int) ≤ (h1 : Int) := by omega
  rw [← hlo] at hpart ⊢
  have HR := Aside0.mk hpart
  have hc : 256 ≤ c - lo := by omega
  have h256 : h1 - lo = 256 := by omega
  have HC := Aside0.mk hc
  clear hrow hpart hi hn hcap hlo hi1 hh1 hc e1
  go_enter Tryd.func46, Tryd.ntmps46
  go_wp2
  go_ret
  exact ⟨_, _, rfl, HC.out, HR.out, rfl⟩
set_option maxHeartbeats 1000000 in
/-- A value that was written since. -/
theorem value1_calls {w : World} {p k b c mf : Nat} {i : Nat} {s : Sec} (c1 : w.cell? ⟨p, 1, none⟩ = some (.map (some mf))) (h0 : k ≠ 0)
    (hl : (Instr.lookup 80 (.map (some mf)) (.agg #[.int .i64 (i : Nat), .int .i64 (k : Nat)]) false).run Tryd.prog w = .ok (.slice (some ⟨b, 0, none⟩) 256 c) w) (hs : s.length = 256) (hO : w.ownsRow 0 5 1 (.slice (some ⟨b, 0, none⟩) 256 c) 256 (bytes s)) :
    Calls Tryd.prog 46 #[.pointer (some ⟨p, 0, none⟩), .int .i64 (i : Nat), .int .i64 (k : Nat)] w fun e w' => ∃ a c, e = .returned (.slice (some a) 256 c) ∧ 256 ≤ c ∧ Rd w (some a) s ∧ w' = w := by
  have b0 : ((k : Int) == 0) = false := by simpa using h0
  obtain ⟨hc, hR⟩ := own_256 hs hO
  have HR := Aside0.mk hR
  clear hs hO hR
  go_enter Tryd.func46, Tryd.ntmps46
  go_wp2
  go_ret
  exact ⟨_, _, rfl, hc, HR.out, rfl⟩
theorem DiskIs.value {x : DX} (h : DiskIs w p d x) {i k : Nat} (hi : i < d.vals.length) (hk : k < (d.vals.getD i []).length) (hb : k ≤ 9223372036854775807) :
    Calls Tryd.prog 46 #[.pointer (some ⟨p, 0, none⟩), .int .i64 (i : Nat), .int .i64 (k : Nat)] w fun e w' => ∃ a c, e = .returned (.slice (some a) 256 c) ∧ 256 ≤ c ∧ Rd w (some a) ((d.vals.getD i []).getD k []) ∧ w' = w := by
  have hF := h.atF.toAt
  have hn := h.ok.n2
  have hs := h.ok.sec _ (h.ok.get hi)
  have hl := h.ok.sure_len
  by_cases h0 : k = 0
  · subst h0
    have e0 : (d.vals.getD i []).getD 0 [] = headOf (d.vals.getD i []) := (headOf_get _).symm
    have e1 : (d.sure.drop (i * 256)).take 256 = headOf (d.vals.getD i []) := flat_part i h.ok.head hi
    rw [e0, ← e1]
    exact value0_calls hF.c0 h.sureRow (by omega) (by omega)
  · obtain ⟨b, c, hlk, hO⟩ := h.fresh hi (by omega) hk hb
    have hg : ((d.vals.getD i []).getD k []).length = 256 := by
      rw [List.getD_eq_getElem?_getD, List.getElem?_eq_getElem hk]; exact (hs _ (List.getElem_mem hk)).1
    exact value1_calls hF.c1 h0 hlk hg hO
theorem St.sure (H : St w0 w (rDisk p d :: L)) : Calls Tryd.prog 50 #[.pointer (some ⟨p, 0, none⟩)] w fun e w' => ∃ v, e = .returned v ∧ w'.ownsRow w.heap.size 5 1 v d.sure.length (bytes d.sure) ∧ Below w.heap.size w w' := by
  have hi := H.is
  obtain ⟨x, H⟩ := H.disk
  have h := H.diskIs
  have hn := h.ok.n2
  obtain ⟨e1, e2, hR⟩ := own_rd h.sureRow
  have hl : d.sure.length ≤ 140737488355328 := by rw [h.ok.sure_len]; omega
  have hc := clone_calls (c := x.cap) hR hl (by simp)
  rw [← e1] at hc
  obtain ⟨c0, c1, c2, c3, c4, c5⟩ := h.atF.toAt
  have E1 := Aside0.mk e1
  clear H h hn hR hl e1
  go_enter Tryd.func50, Tryd.ntmps50
  go_wp2_with fail
  refine hi.mono ?_
  rintro e w1 ⟨rfl, rfl⟩
  go_wp2_with fail
  refine hc.mono ?_
  rintro e w2 ⟨v, rfl, h1, h2, h3⟩
  rw [E1.out] at h1
  go_wp2
  go_ret
  exact ⟨v, rfl, h1, h2⟩
theorem St.written (H : St w0 w (rDisk p d :: L)) : ∃ x, St w0 w (rDiskX p d x ++ L) ∧ Calls Tryd.prog 51 #[.pointer (some ⟨p, 0, none⟩)] w fun e w' => e = .returned (.map (some x.mm)) ∧ w' = w := by
  have hi := H.is
  obtain ⟨x, H⟩ := H.disk
  refine ⟨x, H, ?_⟩
  obtain ⟨c0, c1, c2, c3, c4, c5⟩ := H.diskIs.atF.toAt
  clear H
  go_enter Tryd.func51, Tryd.ntmps51
  go_wp2_with fail
  refine hi.mono ?_
  rintro e w1 ⟨rfl, rfl⟩
  go_wp2
  go_ret
  exact ⟨rfl, rfl⟩
theorem St.pending (H : St w0 w (rDisk p d :: L)) : Calls Tryd.prog 25 #[.pointer (some ⟨p, 0, none⟩)] w fun e w' => e = .returned (.int .i64 (d.pending : Nat)) ∧ w' = w := by
  have hi := H.is
  obtain ⟨x, H⟩ := H.disk
  have h := H.diskIs
  have hl := fun ty => h.mm.len (t := 81) Tryd.underlying81 ty
  rw [h.many.size (h.mm.entries K3), pend_pending] at hl
  obtain ⟨c0, c1, c2, c3, c4, c5⟩ := h.atF.toAt
  clear H h
  go_enter Tryd.func25, Tryd.ntmps25
  go_wp2_with fail
  refine hi.mono ?_
  rintro e w1 ⟨rfl, rfl⟩
  go_wp2
  go_ret
  exact ⟨rfl, rfl⟩
theorem St.read (H : St w0 w (rDisk p d :: L)) (i : Int) : Calls Tryd.prog 19 #[.pointer (some ⟨p, 0, none⟩), .int .i64 i] w fun e w' => ∃ v, e = .returned (.tuple #[v, .int .i64 (d.read i).2]) ∧ w'.ownsRow w.heap.size 5 1 v (d.read i).1.length (bytes (d.read i).1) ∧ Below w.heap.size w w' := by
  have hk := H.look i
  obtain ⟨x, H⟩ := H.disk
  have h := H.diskIs
  have hn := h.ok.n2
  obtain ⟨c0, c1, c2, c3, c4, c5⟩ := h.atF.toAt
  by_cases h1 : i < 0 ∨ (d.vals.length : Int) ≤ i
  · have e : d.read i = ([], 2) := by simp only [Dsk.read, if_pos h1]
    rw [if_pos h1] at hk
    rw [e]
    clear H h
    go_enter Tryd.func19, Tryd.ntmps19
    go_wp2_with fail
    refine hk.mono ?_
    rintro e w1 ⟨rfl, rfl⟩
    go_wp2
    go_ret2
    exact ⟨_, rfl, World.ownsRow_nil _ _ _ _, Below.refl _ _⟩
  · rw [if_neg h1] at hk
    obtain ⟨j, rfl⟩ : ∃ j : Nat, i = j := ⟨i.toNat, by omega⟩
    have hj : j < d.vals.length := by omega
    cases ho : d.off with
    | true =>
      have e : d.read j = ([], 10) := by simp only [Dsk.read, if_neg h1, if_pos ho]
      rw [e]
      rw [ho] at c4
      clear H h
      go_enter Tryd.func19, Tryd.ntmps19
      go_wp2_with fail
      refine hk.mono ?_
      rintro e w1 ⟨rfl, rfl⟩
      go_wp2
      go_ret2
      exact ⟨_, rfl, World.ownsRow_nil _ _ _ _, Below.refl _ _⟩
    | false =>
      have e : d.read j = (lastOf (d.vals.getD j []), 0) := by simp only [Dsk.read, if_neg h1, ho, Bool.false_eq_true, if_false, Int.toNat_natCast]
      rw [e]
      rw [ho] at c4
      obtain ⟨hof, hb⟩ := h.often hj
      have hp := h.ok.pos hj
      have hs := h.ok.sec _ (h.ok.get hj)
      have hg : ((d.vals.getD j []).getD ((d.vals.getD j []).length - 1) []).length = 256 := by
        rw [← lastOf_get]; exact (hs _ (lastOf_mem (h.ok.ne _ (h.ok.get hj)))).1
      rw [lastOf_get]
      obtain ⟨m, hm⟩ : ∃ m : Nat, m = (d.vals.getD j []).length - 1 := ⟨_, rfl⟩
      rw [← hm] at hof hb hg ⊢
      have hv := h.value (k := m) hj (by omega) hb
      have hC : ∀ a c, Rd w (some a) ((d.vals.getD j []).getD m []) → Calls Tryd.prog 45 #[.slice (some a) 256 c] w fun e w' => ∃ v, e = .returned v ∧ w'.ownsRow w.heap.size 5 1 v 256 (bytes ((d.vals.getD j []).getD m [])) ∧ Below w.heap.size w w' := fun a c hr => by
        have := clone_calls (c := c) hr (by omega) (by simp)
        rw [hg] at this
        refine this.mono ?_
        rintro e w' ⟨v, h1, h2, h3, _⟩
        exact ⟨v, h1, h2, h3⟩
      rw [hg]
      generalize (d.vals.getD j []).getD m [] = bs at *
      clear hs hg hp h1 hm
      clear H h
      go_enter Tryd.func19, Tryd.ntmps19
      go_wp2_with fail
      refine hk.mono ?_
      rintro e w1 ⟨rfl, rfl⟩
      go_wp2_with fail
      refine hv.mono ?_
      rintro e w2 ⟨a, c, rfl, _, hr, rfl⟩
      go_wp2_with fail
      refine (hC a c hr).mono ?_
      rintro e w2 ⟨v, rfl, h1, h2⟩
      go_wp2
      go_ret2
      exact ⟨v, rfl, h1, h2⟩
end
end Go.Proofs.YtfhdiddlloiglaaDoor
end
section
/- Which values become sure: one for each sector that was written, rising. No program. -/
namespace Go.Proofs.YtfhdiddlloiglaaDoor
set_option linter.unusedVariables false
set_option linter.unusedSimpArgs false
set_option maxRecDepth 100000

/-- One value for each sector: of the j-th one that was written, the one at pk j (how often it was written). -/
def chosen (pk : Nat → Nat → Nat) : Nat → List (List Sec) → List Sec
  | _, [] => []
  | j, l :: r => if l.length < 2 then headOf l :: chosen pk j r else l.getD (pk j (l.length - 1)) [] :: chosen pk (j + 1) r
def upto (pk : Nat → Nat → Nat) (t : Nat) : Nat → Nat → Nat := fun j m => if j < t then pk j m else 0
theorem chosen_length (pk : Nat → Nat → Nat) : ∀ (l : List (List Sec)) (j : Nat), (chosen pk j l).length = l.length
  | [], _ => rfl
  | l :: r, j => by unfold chosen; split <;> simp [chosen_length pk r]
theorem chosen_congr {pk pk' : Nat → Nat → Nat} : ∀ (l : List (List Sec)) (j : Nat), (∀ i m, j ≤ i → pk i m = pk' i m) → chosen pk j l = chosen pk' j l
  | [], _, _ => rfl
  | l :: r, j, h => by
    unfold chosen
    split
    · rw [chosen_congr r j h]
    · rw [h j _ (Nat.le_refl _), chosen_congr r (j + 1) fun i m hi => h i m (by omega)]
theorem chosen_none {pk : Nat → Nat → Nat} : ∀ (l : List (List Sec)) (j : Nat), (∀ i m, j ≤ i → pk i m = 0) → chosen pk j l = l.map headOf
  | [], _, _ => rfl
  | l :: r, j, h => by
    unfold chosen
    split
    · rw [chosen_none r j h]; rfl
    · rw [h j _ (Nat.le_refl _), chosen_none r (j + 1) fun i m hi => h i m (by omega), ← headOf_get]; rfl
theorem pend_cons (l : List Sec) (r : List (List Sec)) : pend (l :: r) = (if 1 < l.length then [0] else []) ++ (pend r).map (· + 1) := by
  unfold pend
  rw [List.length_cons, List.range_succ_eq_map, List.filter_cons]
  have e : (List.map Nat.succ (List.range r.length)).filter (fun i => decide (1 < ((l :: r).getD i []).length)) = ((List.range r.length).filter fun i => decide (1 < (r.getD i []).length)).map (· + 1) := by
    rw [List.filter_map]
    rfl
  rw [e]
  simp only [List.getD_cons_zero, decide_eq_true_eq]
  split <;> rfl
theorem chosen_step (pk : Nat → Nat → Nat) : ∀ (vals : List (List Sec)) (j t : Nat) (ht : t < (pend vals).length),
    chosen (upto pk (j + t + 1)) j vals = (chosen (upto pk (j + t)) j vals).set (pend vals)[t] ((vals.getD (pend vals)[t] []).getD (pk (j + t) ((vals.getD (pend vals)[t] []).length - 1)) [])
  | [], j, t, ht => absurd ht (by simp [pend])
  | l :: r, j, t, ht => by
    have hp := pend_cons l r
    by_cases hl : 1 < l.length
    · rw [if_pos hl] at hp
      have hl2 : ¬ l.length < 2 := by omega
      cases t with
      | zero =>
        have e0 : (pend (l :: r))[0] = 0 := by simp [hp]
        simp only [e0, List.getD_cons_zero, Nat.add_zero]
        unfold chosen
        rw [if_neg hl2, if_neg hl2, List.set_cons_zero]
        have e1 : upto pk (j + 1) j (l.length - 1) = pk j (l.length - 1) := by simp [upto]
        rw [e1]
        congr 1
        exact chosen_congr r (j + 1) fun i m hi => by simp only [upto]; rw [if_neg (by omega), if_neg (by omega)]
      | succ t =>
        have ht' : t < (pend r).length := by rw [hp] at ht; simpa using ht
        have e0 : (pend (l :: r))[t + 1] = (pend r)[t] + 1 := by simp [hp]
        have ih := chosen_step pk r (j + 1) t ht'
        have ea : j + (t + 1) = j + 1 + t := by omega
        simp only [e0, ea, List.getD_cons_succ]
        rw [show chosen (upto pk (j + 1 + t + 1)) j (l :: r) = l.getD (upto pk (j + 1 + t + 1) j (l.length - 1)) [] :: chosen (upto pk (j + 1 + t + 1)) (j + 1) r from by rw [chosen]; rw [if_neg hl2],
          show chosen (upto pk (j + 1 + t)) j (l :: r) = l.getD (upto pk (j + 1 + t) j (l.length - 1)) [] :: chosen (upto pk (j + 1 + t)) (j + 1) r from by rw [chosen]; rw [if_neg hl2], List.set_cons_succ, ih]
        congr 2
        simp only [upto]; rw [if_pos (by omega), if_pos (by omega)]
    · rw [if_neg hl] at hp
      have hl2 : l.length < 2 := by omega
      have ht' : t < (pend r).length := by rw [hp] at ht; simpa using ht
      have e0 : (pend (l :: r))[t] = (pend r)[t] + 1 := by simp [hp]
      have ih := chosen_step pk r j t ht'
      simp only [e0, List.getD_cons_succ]
      rw [show chosen (upto pk (j + t + 1)) j (l :: r) = headOf l :: chosen (upto pk (j + t + 1)) j r from by rw [chosen]; rw [if_pos hl2],
        show chosen (upto pk (j + t)) j (l :: r) = headOf l :: chosen (upto pk (j + t)) j r from by rw [chosen]; rw [if_pos hl2], List.set_cons_succ, ih]
theorem chosen_all (pk : Nat → Nat → Nat) : ∀ (vals : List (List Sec)) (j : Nat), chosen (upto pk (j + (pend vals).length)) j vals = chosen pk j vals
  | [], _ => rfl
  | l :: r, j => by
    have hp := pend_cons l r
    by_cases hl : 1 < l.length
    · rw [if_pos hl] at hp
      have hl2 : ¬ l.length < 2 := by omega
      have e : (pend (l :: r)).length = (pend r).length + 1 := by rw [hp]; simp
      rw [e, show j + ((pend r).length + 1) = j + 1 + (pend r).length by omega]
      unfold chosen
      rw [if_neg hl2, if_neg hl2, chosen_all pk r (j + 1)]
      congr 2
      simp only [upto]; rw [if_pos (by omega)]
    · rw [if_neg hl] at hp
      have hl2 : l.length < 2 := by omega
      have e : (pend (l :: r)).length = (pend r).length := by rw [hp]; simp
      rw [e]
      unfold chosen
      rw [if_pos hl2, if_pos hl2, chosen_all pk r j]
theorem chosen_zero (pk : Nat → Nat → Nat) (vals : List (List Sec)) : chosen (upto pk 0) 0 vals = vals.map headOf :=
  chosen_none vals 0 fun i m _ => by simp [upto]
theorem chosen_sync : ∀ (vals : List (List Sec)) (j : Nat), (∀ l ∈ vals, l ≠ []) → chosen (fun _ m => m) j vals = vals.map lastOf
  | [], _, _ => rfl
  | l :: r, j, h => by
    have ih := fun j => chosen_sync r j fun x hx => h x (by simp [hx])
    unfold chosen
    split
    · rw [ih, List.map_cons]
      congr 1
      have := List.length_pos_iff.2 (h l (by simp))
      rw [headOf_get, lastOf_get, show l.length - 1 = 0 by omega]
    · rw [ih, List.map_cons, ← lastOf_get]
theorem chosen_crash (picks : List Int) : ∀ (vals : List (List Sec)) (j : Nat), (∀ l ∈ vals, l ≠ []) → Dsk.crashed picks j vals = (chosen (fun j m => Dsk.pick picks j (m + 1)) j vals).map fun s => [s]
  | [], _, _ => rfl
  | l :: r, j, h => by
    have ih := fun j => chosen_crash picks r j fun x hx => h x (by simp [hx])
    have := List.length_pos_iff.2 (h l (by simp))
    unfold chosen Dsk.crashed
    split
    · rw [ih, List.map_cons]
      congr 1
      cases l with
      | nil => simp at this
      | cons a t =>
        rename_i h2
        have : t = [] := List.eq_nil_of_length_eq_zero (by rw [List.length_cons] at h2; omega)
        rw [this]; rfl
    · rw [ih, List.map_cons, show l.length - 1 + 1 = l.length by omega]
theorem chosen_mem {pk : Nat → Nat → Nat} {p : Sec → Prop} (hpk : ∀ j m, pk j m ≤ m) : ∀ (vals : List (List Sec)) (j : Nat), (∀ l ∈ vals, l ≠ [] ∧ ∀ s ∈ l, p s) → ∀ s ∈ chosen pk j vals, p s
  | [], _, _ => fun s hs => by cases hs
  | l :: r, j, h => by
    have hl := h l (by simp)
    have hr := fun j => chosen_mem hpk r j fun x hx => h x (by simp [hx])
    have hpos := List.length_pos_iff.2 hl.1
    unfold chosen
    intro s hs
    split at hs
    · rcases List.mem_cons.1 hs with rfl | hs
      · exact hl.2 _ (headOf_mem hl.1)
      · exact hr _ s hs
    · rcases List.mem_cons.1 hs with rfl | hs
      · have := hpk j (l.length - 1)
        rw [List.getD_eq_getElem?_getD, List.getElem?_eq_getElem (show pk j (l.length - 1) < l.length by omega)]
        exact hl.2 _ (List.getElem_mem _)
      · exact hr _ s hs
theorem flatten_set {s : Sec} (hs : s.length = 256) : ∀ (l : List Sec) (i : Nat), (∀ x ∈ l, x.length = 256) → i < l.length → (l.set i s).flatten = l.flatten.take (i * 256) ++ s ++ l.flatten.drop (i * 256 + 256)
  | [], i, _, h => absurd h (by simp)
  | a :: r, 0, h, _ => by
    have := h a (by simp)
    have hd : (a ++ r.flatten).drop (0 * 256 + 256) = r.flatten := List.drop_left' (by omega)
    have ht : (a ++ r.flatten).take (0 * 256) = [] := by rw [Nat.zero_mul]; rfl
    rw [List.set_cons_zero, List.flatten_cons, List.flatten_cons, hd, ht]; rfl
  | a :: r, i + 1, h, hi => by
    have ha := h a (by simp)
    have ih := flatten_set hs r i (fun x hx => h x (by simp [hx])) (by simpa using hi)
    have e : (i + 1) * 256 = a.length + i * 256 := by omega
    have e2 : (i + 1) * 256 + 256 = a.length + (i * 256 + 256) := by omega
    rw [List.set_cons_succ, List.flatten_cons, List.flatten_cons, ih, e2, e, List.take_length_add_append, List.drop_length_add_append]
    simp [List.append_assoc]
theorem flatten_len : ∀ {l : List Sec}, (∀ x ∈ l, x.length = 256) → l.flatten.length = l.length * 256
  | [], _ => rfl
  | a :: r, h => by
    rw [List.flatten_cons, List.length_append, h a (by simp), flatten_len (l := r) (fun x hx => h x (by simp [hx])), List.length_cons]; omega
theorem flatten_part : ∀ {l : List Sec} (i : Nat), (∀ x ∈ l, x.length = 256) → i < l.length → (l.flatten.drop (i * 256)).take 256 = l.getD i []
  | [], i, _, h => absurd h (by simp)
  | a :: r, 0, h, _ => by
    have := h a (by simp)
    simp only [List.flatten_cons, Nat.zero_mul, List.drop_zero, List.getD_cons_zero]
    rw [List.take_append_of_le_length (by omega), List.take_of_length_le (by omega)]
  | a :: r, i + 1, h, hi => by
    have h1 := h a (by simp)
    have e : (i + 1) * 256 = 256 + i * 256 := by omega
    rw [List.flatten_cons, e, ← List.drop_drop, List.drop_left' h1, List.getD_cons_succ]
    exact flatten_part i (fun x hx => h x (by simp [hx])) (by simpa using hi)
theorem chosen_at (pk : Nat → Nat → Nat) : ∀ (vals : List (List Sec)) (j t : Nat) (ht : t < (pend vals).length), (chosen (upto pk (j + t)) j vals).getD (pend vals)[t] [] = headOf (vals.getD (pend vals)[t] [])
  | [], j, t, ht => absurd ht (by simp [pend])
  | l :: r, j, t, ht => by
    have hp := pend_cons l r
    by_cases hl : 1 < l.length
    · rw [if_pos hl] at hp
      have hl2 : ¬ l.length < 2 := by omega
      cases t with
      | zero =>
        have e0 : (pend (l :: r))[0] = 0 := by simp [hp]
        simp only [e0, List.getD_cons_zero, Nat.add_zero]
        rw [chosen, if_neg hl2, List.getD_cons_zero]
        have e1 : upto pk j j (l.length - 1) = 0 := by simp [upto]
        rw [e1, headOf_get]
      | succ t =>
        have ht' : t < (pend r).length := by rw [hp] at ht; simpa using ht
        have e0 : (pend (l :: r))[t + 1] = (pend r)[t] + 1 := by simp [hp]
        have ih := chosen_at pk r (j + 1) t ht'
        have ea : j + (t + 1) = j + 1 + t := by omega
        simp only [e0, ea]
        rw [chosen, if_neg hl2, List.getD_cons_succ, List.getD_cons_succ, ih]
    · rw [if_neg hl] at hp
      have hl2 : l.length < 2 := by omega
      have ht' : t < (pend r).length := by rw [hp] at ht; simpa using ht
      have e0 : (pend (l :: r))[t] = (pend r)[t] + 1 := by simp [hp]
      have ih := chosen_at pk r j t ht'
      simp only [e0]
      rw [chosen, if_pos hl2, List.getD_cons_succ, List.getD_cons_succ, ih]
end Go.Proofs.YtfhdiddlloiglaaDoor
end
