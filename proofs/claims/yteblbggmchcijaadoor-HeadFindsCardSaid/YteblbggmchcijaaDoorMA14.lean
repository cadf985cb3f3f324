/- Texts of this claim, one behind the other: P, Q. -/
import Derived.Test.YteblbggmchcijaaDoorMA8
import Derived.Test.YteblbggmchcijaaDoorMA12
import Derived.Laws.CopyOwn
section
/- head.Print: what lies in memory while a header is written. -/
namespace Go.Proofs.YteblbggmchcijaaDoor
open Go.RowKit Go.Lib Go.Proofs.YteblbggmchcijaaDoorW.PrintWords Go.Proofs.YteblbggmchcijaaDoorW.PrintLast Go.Proofs.YteblbggmchcijaaDoorW.PrintMore
attribute [local go_sem] Oper.semAt_some
set_option linter.unusedVariables false
set_option linter.unusedSimpArgs false

theorem cell_row {w : World} {g : Nat} {cur : Array Value} {t : TypeId} (hg : w.heap[g]? = some (.cells cur t (0, 0))) (j : Nat) : w.cell? ⟨g, j, none⟩ = cur[j]? := by simp [World.cell?, hg]
structure Hd where
  name : ByteArray
  link : ByteArray
  mode : Int
  size : Int
  kind : Int
def Hd.cells (h : Hd) : Array Value := #[.string h.name, .string h.link, .int .i64 h.mode, .int .i64 h.size, .int .u8 h.kind]
/-- While a header is written: the header's own copy (b0), the bytes (g), the variable that leads to them (bx). -/
structure St (w0 W : World) (h : Hd) (b0 g bx : Nat) (X : List Int) : Prop where
  below : Below w0.heap.size w0 W
  hb0 : W.heap[b0]? = some (.cells h.cells 25 (0, 0))
  row : W.heap[g]? = some (.cells (nums .u8 X).toArray 5 (0, 0))
  hbx : W.heap[bx]? = some (.cells #[.slice (some ⟨g, 0, none⟩) 512 512] 22 (0, 0))
  ge : w0.heap.size ≤ g
  n0 : b0 ≠ g
  nx : bx ≠ g
  len : X.length = 512
theorem St.step {w0 W W' : World} {h : Hd} {b0 g bx : Nat} {X : List Int} (s : St w0 W h b0 g bx X) (hb : Below W.heap.size W W') : St w0 W' h b0 g bx X where
  below := s.below.trans (hb.mono s.below.size)
  hb0 := (hb.block b0 (Array.getElem?_eq_some_iff.1 s.hb0).1).trans s.hb0
  row := (hb.block g (Array.getElem?_eq_some_iff.1 s.row).1).trans s.row
  hbx := (hb.block bx (Array.getElem?_eq_some_iff.1 s.hbx).1).trans s.hbx
  ge := s.ge
  n0 := s.n0
  nx := s.nx
  len := s.len
theorem St.put {w0 W : World} {h : Hd} {b0 g bx : Nat} {X : List Int} (s : St w0 W h b0 g bx X) (a : Nat) (t : ByteArray) (ha : a + t.size ≤ 512) : St w0 (W.setRow g (nums .u8 (putL X a t)).toArray) h b0 g bx (putL X a t) where
  below := below_setRow s.below s.ge _
  hb0 := (setRow_other W g b0 _ s.n0).trans s.hb0
  row := setRow_heap W g _ _ 5 _ s.row
  hbx := (setRow_other W g bx _ s.nx).trans s.hbx
  ge := s.ge
  n0 := s.n0
  nx := s.nx
  len := by rw [putL_length X a t (by rw [s.len]; exact ha)]; exact s.len
theorem St.cell0 {w0 W : World} {h : Hd} {b0 g bx : Nat} {X : List Int} (s : St w0 W h b0 g bx X) : W.cell? ⟨b0, 0, none⟩ = some (.string h.name) ∧ W.cell? ⟨b0, 1, none⟩ = some (.string h.link) ∧ W.cell? ⟨b0, 2, none⟩ = some (.int .i64 h.mode) ∧ W.cell? ⟨b0, 3, none⟩ = some (.int .i64 h.size) ∧ W.cell? ⟨b0, 4, none⟩ = some (.int .u8 h.kind) := by
  refine ⟨?_, ?_, ?_, ?_, ?_⟩ <;> (rw [cell_row s.hb0]; rfl)
theorem St.cellx {w0 W : World} {h : Hd} {b0 g bx : Nat} {X : List Int} (s : St w0 W h b0 g bx X) : W.cell? ⟨bx, 0, none⟩ = some (.slice (some ⟨g, 0, none⟩) 512 512) := by
  rw [cell_row s.hbx]; rfl
theorem info5_ : (Tryd.prog.info? 5).map (fun i => (i.zero, i.size, i.bytes)) = some (some (.int .u8 0), 1, 1) := by kernel_rfl
theorem made512 : madeCells (Value.int .u8 0).cells (Int.toNat 512 * 1) = (nums .u8 (List.replicate 512 0)).toArray := by kernel_rfl
theorem put_st {w0 W : World} {h : Hd} {b0 g bx : Nat} {X : List Int} (s : St w0 W h b0 g bx X) (hF : Fields w0) (f : Nat) (hf : f < 11) (t : ByteArray) (ht : t.size ≤ fldSz f) :
    Calls Tryd.prog 32 #[.int .i64 (f : Int), .string t, .pointer (some ⟨bx, 0, none⟩)] W fun e w' => e = .returned (.tuple #[]) ∧ St w0 w' h b0 g bx (putL X (fldAt f) t) := by
  refine (put_calls g bx X f t W (hF.below s.below) hf s.cellx s.row s.len ht).mono ?_
  rintro e w' ⟨rfl, w1, hb, rfl⟩
  have hle := fld_le f hf
  exact ⟨rfl, (s.step hb).put _ _ (by omega)⟩
def ustar : ByteArray := ⟨#[117, 115, 116, 97, 114, 0, 48, 48]⟩
/-- The bytes of a header, but for the sum. -/
def headX (pre nam link : ByteArray) (mode size : Nat) (kind : ByteArray) : List Int :=
  putL (putL (putL (putL (putL (putL (putL (putL (putL (putL (List.replicate 512 0) 0 nam) 100 (octS mode 7)) 108 (octS 0 7)) 116 (octS 0 7)) 124 (octS size 11)) 136 (octS 0 11)) 156 kind) 157 link) 257 ustar) 345 pre
def sumS (n : Nat) : ByteArray := (octS n 6) ++ ⟨#[0, 32]⟩
def headB (pre nam link : ByteArray) (mode size : Nat) (kind : ByteArray) : List Int := putL (headX pre nam link mode size kind) 148 (sumS (sumTo (headX pre nam link mode size kind) 512).toNat)
end Go.Proofs.YteblbggmchcijaaDoor
end
section
/- head.Print. -/
namespace Go.Proofs.YteblbggmchcijaaDoor
open Go.RowKit Go.Lib Go.Proofs.YteblbggmchcijaaDoorW.PrintWords Go.Proofs.YteblbggmchcijaaDoorW.PrintLast Go.Proofs.YteblbggmchcijaaDoorW.PrintMore
attribute [local go_sem] Oper.semAt_some
set_option linter.unusedVariables false
set_option linter.unusedSimpArgs false

theorem one_string (W : World) (g : Nat) (kd : UInt8) (hc : W.cell? ⟨g, 0, none⟩ = some (.int .u8 (kd.toNat : Int))) : (convert 22 9 (.slice (some ⟨g, 0, none⟩) 1 1)).run Tryd.prog W = .ok (.string ⟨#[kd]⟩) W := by
  have hC : Kd.C (Kd.int .u8) W (some ⟨g, 0, none⟩) (Lib.numsL [kd]).length (Lib.numsL [kd]) := by
    refine ⟨rfl, by simp [Lib.numsL], fun _ => ⟨_, rfl, fun j p hj => ⟨[.int .u8 p], rfl, rfl, fun i u hu => ?_⟩⟩⟩
    have hi : i = 0 := by have := (List.getElem?_eq_some_iff.1 hu).1; simp at this; omega
    subst hi
    have hup : Value.int .u8 p = u := by simpa using hu
    subst hup
    have hj0 : j = 0 := by have := (List.getElem?_eq_some_iff.1 hj).1; simp [Lib.numsL] at this; omega
    subst hj0
    have : (kd.toNat : Int) = p := by simpa [Lib.numsL] using hj
    subst this
    simpa [Addr.add_lit] using hc
  have := Kd.C_string (P := Tryd.prog) (A := some ⟨g, 0, none⟩) (c := 1) Tryd.underlying22 Tryd.underlying5 Tryd.underlying9 hC
  rw [str_numsL] at this
  exact this
theorem putL_bytes {X : List Int} (hX : AreBytes X) (a : Nat) (s : ByteArray) : AreBytes (putL X a s) := by
  intro b hb
  unfold putL at hb
  rcases List.mem_append.1 hb with h | h
  · rcases List.mem_append.1 h with h | h
    · exact hX b (List.mem_of_mem_take h)
    · unfold YteblbggmchcijaaDoorW.PrintWords.bytesOf at h
      obtain ⟨c, _, rfl⟩ := List.mem_map.1 h
      have := c.toNat_lt
      omega
  · exact hX b (List.mem_of_mem_drop h)
theorem headX_bytes (pre nam link : ByteArray) (mode size : Nat) (kind : ByteArray) : AreBytes (headX pre nam link mode size kind) := by
  unfold headX
  repeat apply putL_bytes
  intro b hb
  rw [List.eq_of_mem_replicate hb]; omega
theorem St.reads {w0 W : World} {h : Hd} {b0 g bx : Nat} {X : List Int} (s : St w0 W h b0 g bx X) : Kd.C (Kd.int .u8) W (some ⟨g, 0, none⟩) X.length X := by
  refine ⟨rfl, by rw [s.len]; decide, fun _ => ⟨_, rfl, fun j p hj => ⟨[.int .u8 p], rfl, rfl, fun i u hu => ?_⟩⟩⟩
  have hi : i = 0 := by have := (List.getElem?_eq_some_iff.1 hu).1; simp at this; omega
  subst hi
  have hup : Value.int .u8 p = u := by simpa using hu
  subst hup
  have hz : j * (Kd.int .u8).sz = j := Nat.mul_one j
  rw [hz]
  simp only [Addr.add_lit, Nat.zero_add, Nat.add_zero]
  rw [cell_row s.row]
  simp [nums, hj]
theorem St.made {w0 W : World} {h : Hd} {b0 g bx : Nat} {X : List Int} (s : St w0 W h b0 g bx X) : Kd.R (Kd.int .u8) 5 W w0.heap.size (fun _ => True) (.slice (some ⟨g, 0, none⟩) 512 512) X := by
  refine Kd.R_of_own ⟨by simp [encs], .inr ⟨g, 512, _, by rw [s.len], s.ge, s.row, by rw [s.len]; exact Nat.le_refl _, by decide, by simp [nums, s.len], ?_⟩⟩ (fun _ _ => trivial)
  rw [s.len]
  exact List.take_of_length_le (by simp [nums, s.len])
set_option maxHeartbeats 8000000 in
set_option maxRecDepth 100000 in
theorem print_ok (h : Hd) (pre nam : ByteArray) (mode size : Nat) (kd : UInt8) (w : World) (hF : Fields w) (hp : parted h.name = ⟨pre, nam, true⟩) (hns : h.name.size ≤ 140737488355328) (hl : h.link.size ≤ 100)
    (hz : decide (0 ≤ Lib.indexByte (h.name ++ h.link).data.toList 0) = false) (hm : h.mode = (mode : Int)) (hm2 : mode ≤ 4095) (hs : h.size = (size : Int)) (hs2 : size ≤ 262144) (hk : h.kind = (kd.toNat : Int)) (hk0 : kd ≠ 0)
    (hpre : pre.size ≤ 155) (hnam : nam.size ≤ 100)
    (hMul : ∀ d, (d = 6 ∨ d = 7 ∨ d = 11) → ∀ W, Calls Tryd.prog 55 #[.int .u64 1, .int .u64 ((d : Nat) : Int)] W fun e w' => e = .returned (.tuple #[.int .u64 0, .int .u64 (d : Int)]) ∧ Drawn0 W w') :
    Calls Tryd.prog 20 #[.agg h.cells] w fun e w' => ∃ v, e = .returned (.tuple #[v, .int .i64 0]) ∧ Kd.R (Kd.int .u8) 5 w' w.heap.size (fun _ => True) v (headB pre nam h.link mode size ⟨#[kd]⟩) ∧ Below w.heap.size w w' := by
  have hP := parted_calls h.name
  rw [hp] at hP
  have hO7 : ∀ n W, n < 4611686018427387904 → Calls Tryd.prog 33 #[.int .i64 ((n : Nat) : Int), .int .i64 7] W fun e w' => e = .returned (.string (octS n 7)) ∧ Below W.heap.size W w' := fun n W hn => octal_calls n 7 W (by omega) (by omega) hn (hMul 7 (by omega))
  have hO11 : ∀ n W, n < 4611686018427387904 → Calls Tryd.prog 33 #[.int .i64 ((n : Nat) : Int), .int .i64 11] W fun e w' => e = .returned (.string (octS n 11)) ∧ Below W.heap.size W w' := fun n W hn => octal_calls n 11 W (by omega) (by omega) hn (hMul 11 (by omega))
  have hO6 : ∀ n W, n < 4611686018427387904 → Calls Tryd.prog 33 #[.int .i64 ((n : Nat) : Int), .int .i64 6] W fun e w' => e = .returned (.string (octS n 6)) ∧ Below W.heap.size W w' := fun n W hn => octal_calls n 6 W (by omega) (by omega) hn (hMul 6 (by omega))
  have hC := fun W => Tryd.strings_Contains_one (h.name ++ h.link) 0 W
  rw [hz] at hC
  have hkn : 0 < kd.toNat := by
    rcases Nat.eq_zero_or_pos kd.toNat with e | e
    · exact absurd (UInt8.toNat_inj.1 (by simpa using e)) hk0
    · exact e
  have hk255 := kd.toNat_lt
  obtain ⟨hn, hlk, hmo, hsi, hki⟩ := h
  simp only at hp hns hl hz hm hs hk hP hC ⊢
  subst hm hs hk
  have HF := Aside0.mk hF
  have HO7 := Aside0.mk hO7
  have HO11 := Aside0.mk hO11
  have HO6 := Aside0.mk hO6
  have HP : Aside0 (∀ W, Fields W → Calls Tryd.prog 30 #[.string hn] W fun e w' => e = .returned (Parted.val ⟨pre, nam, true⟩) ∧ Below W.heap.size W w') := Aside0.mk (fun W hW => hP W hW hns)
  have HCo := Aside0.mk hC
  clear hMul hO7 hO11 hO6 hP hC
  have H8 : Aside0 (∀ W, Below w.heap.size w W → W.cell? ⟨0, 8 * 2 + 1, none⟩ = some (.int .i64 100)) := Aside0.mk (fun W hW => ((hF.below hW) 8 (by decide)).2)
  clear hF hz hp
  unfold Hd.cells
  have hu25 := Tryd.underlying25
  have hB1 : Below w.heap.size w (w.alloc (.cells #[.string hn, .string hlk, .int .i64 (mode : Int), .int .i64 (size : Int), .int .u8 (kd.toNat : Int)] 25)) := (Below.refl _ _).alloc (Nat.le_refl _) _
  obtain ⟨W1, hW1⟩ : ∃ W1, W1 = w.alloc (.cells #[.string hn, .string hlk, .int .i64 (mode : Int), .int .i64 (size : Int), .int .u8 (kd.toNat : Int)] 25) := ⟨_, rfl⟩
  have HB1 : Aside0 (Below w.heap.size w W1) := Aside0.mk (by rw [hW1]; exact hB1)
  have hbk : W1.heap[w.heap.size]? = some (.cells #[.string hn, .string hlk, .int .i64 (mode : Int), .int .i64 (size : Int), .int .u8 (kd.toNat : Int)] 25 (0, 0)) := by rw [hW1]; exact heap_alloc_new w _
  have HBK := Aside0.mk hbk
  clear hbk hB1
  have c0 : W1.cell? ⟨w.heap.size, 0, none⟩ = some (.string hn) := by rw [cell_row HBK.out]; rfl
  go_enter Tryd.func20, Tryd.ntmps20
  go_wp2_with fail
  rw [← hW1]
  clear hW1
  refine (HP.out W1 (HF.out.below HB1.out)).mono ?_
  rintro e W2 ⟨rfl, hb⟩
  have HB2 := Aside0.mk (HB1.out.trans (hb.mono HB1.out.size))
  have hbk2 := (hb.block w.heap.size (Array.getElem?_eq_some_iff.1 HBK.out).1).trans HBK.out
  have HBK2 := Aside0.mk hbk2
  have d0 : W2.cell? ⟨w.heap.size, 0, none⟩ = some (.string hn) := by rw [cell_row hbk2]; rfl
  have d1 : W2.cell? ⟨w.heap.size, 1, none⟩ = some (.string hlk) := by rw [cell_row hbk2]; rfl
  have d2 : W2.cell? ⟨w.heap.size, 2, none⟩ = some (.int .i64 (mode : Int)) := by rw [cell_row hbk2]; rfl
  have d3 : W2.cell? ⟨w.heap.size, 3, none⟩ = some (.int .i64 (size : Int)) := by rw [cell_row hbk2]; rfl
  have d4 : W2.cell? ⟨w.heap.size, 4, none⟩ = some (.int .u8 (kd.toNat : Int)) := by rw [cell_row hbk2]; rfl
  have g8 := H8.out W2 HB2.out
  have hsz2 : w.heap.size < W2.heap.size := (Array.getElem?_eq_some_iff.1 hbk2).1
  clear hb hbk2 c0
  unfold Parted.val
  have t1 : decide ((100 : Int) < (hlk.size : Int)) = false := decide_eq_false (by omega)
  have t2 : decide ((mode : Int) < 0) = false := decide_eq_false (by omega)
  have t3 : decide ((4095 : Int) < (mode : Int)) = false := decide_eq_false (by omega)
  have t4 : decide ((size : Int) < 0) = false := decide_eq_false (by omega)
  have t5 : decide ((262144 : Int) < (size : Int)) = false := decide_eq_false (by omega)
  have t6 : ((kd.toNat : Int) == 0) = false := by simp; omega
  go_wp2_with (go_at_call 31; refine (HCo.out _).mono ?_; rintro e w' ⟨rfl, hw'⟩; have hw'' := hw'.symm; subst hw'')
  clear t1 t2 t3 t4 t5 t6 g8
  obtain ⟨CS, hCS⟩ : ∃ CS, CS = (nums .u8 (List.replicate 512 0)).toArray := ⟨_, rfl⟩
  have hmk : (Instr.makeSlice 22 (.int .i64 512) (.int .i64 512)).run Tryd.prog W2 = .ok (.slice (some ⟨W2.heap.size, 0, none⟩) 512 512) (W2.alloc (.cells CS 5)) := by
    obtain ⟨i0, hi, hz0, hz1, hz2⟩ := info_parts info5_
    have := run_makeSlice (P := Tryd.prog) W2 22 5 i0 (.int .u8 0) Tryd.underlying22 hi hz0 .i64 .i64 512 512 (by omega) (by omega) (by rw [hz1]; decide) (by rw [hz2]; decide) (by decide)
    rw [this, hCS, hz1, made512]
    rfl
  have HCS := Aside0.mk hCS
  clear hCS
  rw [hmk]
  clear hmk
  go_wp2_with fail
  obtain ⟨W3, hW3⟩ : ∃ W3, W3 = (W2.alloc (.cells CS 5)).alloc (.cells #[.slice (some ⟨W2.heap.size, 0, none⟩) 512 512] 22) := ⟨_, rfl⟩
  have S0 : Aside0 (St w W3 ⟨hn, hlk, (mode : Int), (size : Int), (kd.toNat : Int)⟩ w.heap.size W2.heap.size (W2.heap.size + 1) (List.replicate 512 0)) := Aside0.mk (by
    rw [hW3]
    have h1 : (W2.alloc (.cells CS 5)).heap.size = W2.heap.size + 1 := by simp
    refine ⟨(HB2.out.alloc HB2.out.size _).alloc (by rw [h1]; have := HB2.out.size; omega) _, ?_, ?_, ?_, HB2.out.size, by omega, by omega, by simp⟩
    · exact (heap_alloc_old _ _ (by rw [h1]; omega)).trans ((heap_alloc_old _ _ hsz2).trans HBK2.out)
    · rw [← HCS.out]; exact (heap_alloc_old _ _ (by rw [h1]; omega)).trans (heap_alloc_new W2 _)
    · have := heap_alloc_new (W2.alloc (.cells CS 5)) (.cells #[.slice (some ⟨W2.heap.size, 0, none⟩) 512 512] 22)
      rw [h1] at this; exact this)
  rw [← hW3]
  clear hW3 HB2 HBK2 HCS hsz2 HP HCo H8 HBK HB1
  obtain ⟨g, hg⟩ : ∃ g, g = W2.heap.size := ⟨_, rfl⟩
  obtain ⟨bx, hbx⟩ : ∃ bx, bx = W2.heap.size + 1 := ⟨_, rfl⟩
  rw [← hbx, ← hg] at S0
  rw [← hbx, ← hg]
  clear hbx hg d0 d1 d2 d3 d4
  refine (put_st S0.out HF.out 0 (by decide) nam (by show nam.size ≤ 100; omega)).mono ?_
  rintro e W4 ⟨rfl, s⟩
  have S4 := Aside0.mk s
  clear s S0
  try clear q1 q2 q3 q4
  try clear qx
  obtain ⟨_, q1, q2, q3, q4⟩ := S4.out.cell0
  simp only at q1 q2 q3 q4
  go_wp2_with fail
  refine (HO7.out mode _ (by omega)).mono ?_
  rintro e W5 ⟨rfl, hb⟩
  have S5 := Aside0.mk (S4.out.step hb)
  clear hb S4
  try clear q1 q2 q3 q4
  try clear qx
  go_wp2_with fail
  refine (put_st S5.out HF.out 1 (by decide) (octS mode 7) (by rw [octS_size]; decide)).mono ?_
  rintro e W6 ⟨rfl, s⟩
  have S6 := Aside0.mk s
  clear s S5
  try clear q1 q2 q3 q4
  try clear qx
  go_wp2_with fail
  refine (HO7.out 0 _ (by omega)).mono ?_
  rintro e W7 ⟨rfl, hb⟩
  have S7 := Aside0.mk (S6.out.step hb)
  clear hb S6
  try clear q1 q2 q3 q4
  try clear qx
  go_wp2_with fail
  refine (put_st S7.out HF.out 2 (by decide) (octS 0 7) (by rw [octS_size]; decide)).mono ?_
  rintro e W8 ⟨rfl, s⟩
  have S8 := Aside0.mk s
  clear s S7
  try clear q1 q2 q3 q4
  try clear qx
  go_wp2_with fail
  refine (HO7.out 0 _ (by omega)).mono ?_
  rintro e W9 ⟨rfl, hb⟩
  have S9 := Aside0.mk (S8.out.step hb)
  clear hb S8
  try clear q1 q2 q3 q4
  try clear qx
  go_wp2_with fail
  refine (put_st S9.out HF.out 3 (by decide) (octS 0 7) (by rw [octS_size]; decide)).mono ?_
  rintro e W10 ⟨rfl, s⟩
  have S10 := Aside0.mk s
  clear s S9
  try clear q1 q2 q3 q4
  try clear qx
  obtain ⟨_, q1, q2, q3, q4⟩ := S10.out.cell0
  simp only at q1 q2 q3 q4
  go_wp2_with fail
  refine (HO11.out size _ (by omega)).mono ?_
  rintro e W11 ⟨rfl, hb⟩
  have S11 := Aside0.mk (S10.out.step hb)
  clear hb S10
  try clear q1 q2 q3 q4
  try clear qx
  go_wp2_with fail
  refine (put_st S11.out HF.out 4 (by decide) (octS size 11) (by rw [octS_size]; decide)).mono ?_
  rintro e W12 ⟨rfl, s⟩
  have S12 := Aside0.mk s
  clear s S11
  try clear q1 q2 q3 q4
  try clear qx
  go_wp2_with fail
  refine (HO11.out 0 _ (by omega)).mono ?_
  rintro e W13 ⟨rfl, hb⟩
  have S13 := Aside0.mk (S12.out.step hb)
  clear hb S12
  try clear q1 q2 q3 q4
  try clear qx
  go_wp2_with fail
  refine (put_st S13.out HF.out 5 (by decide) (octS 0 11) (by rw [octS_size]; decide)).mono ?_
  rintro e W14 ⟨rfl, s⟩
  have S14 := Aside0.mk s
  clear s S13
  try clear q1 q2 q3 q4
  obtain ⟨_, q1, q2, q3, q4⟩ := S14.out.cell0
  simp only at q1 q2 q3 q4
  have hcv := one_string (W14.alloc (.cells #[.int .u8 (kd.toNat : Int)] 5)) W14.heap.size kd (by simp)
  go_wp2_with fail
  clear hcv
  have SA := Aside0.mk (S14.out.step ((Below.refl W14.heap.size W14).alloc (Nat.le_refl _) (.cells #[.int .u8 (kd.toNat : Int)] 5)))
  clear S14
  refine (put_st SA.out HF.out 7 (by decide) ⟨#[kd]⟩ (by show 1 ≤ 1; omega)).mono ?_
  rintro e W15 ⟨rfl, s⟩
  have S15 := Aside0.mk s
  clear s SA
  try clear q1 q2 q3 q4
  try clear qx
  obtain ⟨_, q1, q2, q3, q4⟩ := S15.out.cell0
  simp only at q1 q2 q3 q4
  go_wp2_with fail
  refine (put_st S15.out HF.out 8 (by decide) hlk (by show hlk.size ≤ 100; omega)).mono ?_
  rintro e W16 ⟨rfl, s⟩
  have S16 := Aside0.mk s
  clear s S15
  try clear q1 q2 q3 q4
  try clear qx
  go_wp2_with fail
  refine (put_st S16.out HF.out 9 (by decide) ustar (by decide)).mono ?_
  rintro e W17 ⟨rfl, s⟩
  have S17 := Aside0.mk s
  clear s S16
  try clear q1 q2 q3 q4
  try clear qx
  go_wp2_with fail
  refine (put_st S17.out HF.out 10 (by decide) pre (by show pre.size ≤ 155; omega)).mono ?_
  rintro e W18 ⟨rfl, s⟩
  have S18 := Aside0.mk s
  clear s S17
  try clear q1 q2 q3 q4
  try clear qx
  have qx := S18.out.cellx
  go_wp2_with fail
  have SX : Aside0 (St w W18 ⟨hn, hlk, (mode : Int), (size : Int), (kd.toNat : Int)⟩ w.heap.size g bx (headX pre nam hlk mode size ⟨#[kd]⟩)) := Aside0.mk S18.out
  clear S18 qx
  have hXb : AreBytes (headX pre nam hlk mode size ⟨#[kd]⟩) := headX_bytes _ _ _ _ _ _
  have hXs := sumTo_range hXb 512
  have hXl := SX.out.len
  have hSum := sum_calls (some ⟨g, 0, none⟩) 512 (headX pre nam hlk mode size ⟨#[kd]⟩) W18 (HF.out.below SX.out.below) SX.out.reads (by omega) (by omega) hXb
  rw [hXl] at hSum
  obtain ⟨sm, hsm⟩ : ∃ sm : Nat, (sumTo (headX pre nam hlk mode size ⟨#[kd]⟩) 512) = (sm : Int) := ⟨_, (Int.toNat_of_nonneg hXs.1).symm⟩
  have hsm2 : sm < 4611686018427387904 := by omega
  rw [hsm] at hSum
  have HSM : Aside0 (headB pre nam hlk mode size ⟨#[kd]⟩ = putL (headX pre nam hlk mode size ⟨#[kd]⟩) 148 (sumS sm)) := Aside0.mk (by unfold headB; rw [hsm, Int.toNat_natCast])
  clear hXs hXl hXb hsm
  refine hSum.mono ?_
  rintro e W50 ⟨rfl, hb⟩
  have SY := Aside0.mk (SX.out.step hb)
  clear hb hSum SX
  go_wp2_with fail
  refine (HO6.out sm _ hsm2).mono ?_
  rintro e W51 ⟨rfl, hb⟩
  have SZ := Aside0.mk (SY.out.step hb)
  clear hb SY
  go_wp2_with fail
  have hss : (octS sm 6 ++ ⟨#[0, 32]⟩).size ≤ fldSz 6 := by
    rw [ByteArray.size_append, octS_size]; decide
  refine (put_st SZ.out HF.out 6 (by decide) (sumS sm) hss).mono ?_
  rintro e W52 ⟨rfl, s⟩
  have SE := Aside0.mk s
  clear s SZ
  have qx := SE.out.cellx
  go_wp2
  go_ret2
  refine ⟨_, rfl, ?_, SE.out.below⟩
  rw [HSM.out]
  exact SE.out.made
end Go.Proofs.YteblbggmchcijaaDoor
end
