/- Texts of this claim, one behind the other: O. -/
import Derived.Laws.BitsLemmas
import Derived.Test.YteblbggmchcijaaDoorMA7
section
/- head.octal: a number's digits. -/
namespace Go.Proofs.YteblbggmchcijaaDoor
open Go.RowKit Go.Lib Go.Proofs.YteblbggmchcijaaDoorW.PrintWords Go.Proofs.YteblbggmchcijaaDoorW.PrintLast Go.Proofs.YteblbggmchcijaaDoorW.PrintMore
attribute [local go_sem] Oper.semAt_some
set_option linter.unusedVariables false
set_option linter.unusedSimpArgs false

/-- The j lowest digits to the base 8. -/
def lows (n : Nat) : Nat → List UInt8
  | 0 => []
  | j + 1 => UInt8.ofNat (48 + n / 8 ^ j % 8) :: lows n j
theorem lows_length (n : Nat) : ∀ j, (lows n j).length = j
  | 0 => rfl
  | j + 1 => by rw [lows, List.length_cons, lows_length n j]
def octS (n d : Nat) : ByteArray := ⟨(lows n d).toArray⟩
theorem octS_size (n d : Nat) : (octS n d).size = d := by
  show (lows n d).toArray.size = d
  rw [List.size_toArray, lows_length]
theorem str_numsL (l : List UInt8) : strOfNums (Lib.numsL l) = ⟨l.toArray⟩ := by
  unfold strOfNums Lib.numsL
  rw [List.map_map]
  congr 2
  conv => rhs; rw [← List.map_id l]
  refine List.map_congr_left fun b _ => ?_
  simp
theorem _root_.Go.Lib.Buf.set_ {w0 wr : World} {h N : Nat} {acc : List UInt8} (hb : Lib.Buf w0 wr h N acc) (i : Nat) (hi : i < acc.length) (v : UInt8) : Lib.Buf w0 (wr.setCell ⟨h, i, none⟩ (.int .u8 (v.toNat : Int))) h N (acc.set i v) := by
  have hiN : i < N := Nat.lt_of_lt_of_le hi hb.fits
  refine ⟨hb.below.setCell (p := ⟨h, i, none⟩) (Nat.le_refl _) _, ?_, ?_, ?_, by rw [List.length_set]; exact hb.fits⟩
  · intro j hj
    by_cases e : j = i
    · subst e
      obtain ⟨u, hu⟩ := Option.isSome_iff_exists.1 (hb.there j hj)
      rw [World.cell?_setCell_same _ _ _ hu]; rfl
    · have hne : (⟨h, i, none⟩ : Addr) ≠ ⟨h, j, none⟩ := by intro hq; injection hq with _ h2 _; exact e (by omega)
      rw [World.cell?_setCell_other (h := hne)]
      exact hb.there j hj
  · intro j hj
    rw [World.frozen?_setCell]
    exact hb.free j hj
  · intro j x hx
    rw [List.getElem?_set] at hx
    by_cases e : i = j
    · subst e
      rw [if_pos rfl, if_pos hi] at hx
      obtain rfl := Option.some.inj hx
      obtain ⟨u, hu⟩ := Option.isSome_iff_exists.1 (hb.there i hiN)
      exact World.cell?_setCell_same _ _ _ hu
    · rw [if_neg e] at hx
      have hne : (⟨h, i, none⟩ : Addr) ≠ ⟨h, j, none⟩ := by intro hq; injection hq with _ h2 _; exact e (by omega)
      rw [World.cell?_setCell_other (h := hne)]
      exact hb.holds j x hx
theorem _root_.Go.Lib.Buf.reads {w0 wr : World} {h N : Nat} {acc : List UInt8} (hb : Lib.Buf w0 wr h N acc) (hN : acc.length ≤ 9223372036854775807) : Kd.C (Kd.int .u8) wr (some ⟨h, 0, none⟩) (Lib.numsL acc).length (Lib.numsL acc) := by
  refine ⟨rfl, by simpa [Lib.numsL] using hN, fun _ => ⟨_, rfl, fun j p hj => ⟨[.int .u8 p], rfl, rfl, fun i u hu => ?_⟩⟩⟩
  have hi : i = 0 := by have := (List.getElem?_eq_some_iff.1 hu).1; simp at this; omega
  subst hi
  have hup : Value.int .u8 p = u := by simpa using hu
  subst hup
  unfold Lib.numsL at hj
  rw [List.getElem?_map] at hj
  obtain ⟨x, hx, rfl⟩ := Option.map_eq_some_iff.1 hj
  have := hb.holds j x hx
  have hz : j * (Kd.int .u8).sz = j := Nat.mul_one j
  rw [hz]
  simpa [Addr.add_lit] using this

theorem and7 (x : Int) (h0 : 0 ≤ x) (h1 : x < 4611686018427387904) : bits .and .i64 x 7 = x % 8 :=
  bits_mask .i64 62 (by decide) (fun n a b => by rw [IntKind.wrap_i64]; omega) 3 (by decide) x h0 (by omega)
set_option maxHeartbeats 4000000 in
theorem octal_calls (n d : Nat) (w : World) (h1 : 1 ≤ d) (h2 : d ≤ 20) (hn : n < 4611686018427387904)
    (hMul : ∀ W, Calls Tryd.prog 55 #[.int .u64 1, .int .u64 (d : Int)] W fun e w' => e = .returned (.tuple #[.int .u64 0, .int .u64 (d : Int)]) ∧ Drawn0 W w') :
    Calls Tryd.prog 33 #[.int .i64 (n : Int), .int .i64 (d : Int)] w fun e w' => e = .returned (.string (octS n d)) ∧ Below w.heap.size w w' := by
  have hR : ∀ W g, W.cell? ⟨g, 0, none⟩ = some (.int .u8 48) → Calls Tryd.prog 48 #[.slice (some ⟨g, 0, none⟩) 1 1, .int .i64 (d : Int)] W fun e w' => ∃ h, e = .returned (.slice (some ⟨h, 0, none⟩) d d) ∧ W.heap.size ≤ h ∧ Lib.Buf W w' h d (List.replicate d 48) := fun W g hg => repeat_calls 48 d g W hg h1 (by omega) hMul
  clear hMul
  go_enter Tryd.func33, Tryd.ntmps33
  go_wp2_with fail
  obtain ⟨W0, hW0⟩ : ∃ W0, W0 = w.alloc (.cells #[Value.int IntKind.u8 48] 5) := ⟨_, rfl⟩
  have HB0 : Aside0 (Below w.heap.size w W0) := Aside0.mk (by rw [hW0]; exact (Below.refl _ _).alloc (Nat.le_refl _) _)
  have hc0 : W0.cell? ⟨w.heap.size, 0, none⟩ = some (.int .u8 48) := by rw [hW0]; simp
  rw [← hW0]
  refine (hR _ w.heap.size hc0).mono ?_
  rintro e w1 ⟨h, rfl, hh, hb⟩
  clear hR hc0 hW0
  have HB : Aside0 (Lib.Buf W0 w1 h d (List.replicate (d - 0) 48 ++ lows n 0)) := Aside0.mk (by rw [Nat.sub_zero]; simpa [lows] using hb)
  have HH : Aside0 (w.heap.size ≤ h) := Aside0.mk (Nat.le_trans HB0.out.size hh)
  have HH0 : Aside0 (W0.heap.size ≤ h) := Aside0.mk hh
  clear hb hh
  go_wp2
  go_loopw [0, 6] (fun v i W => ∃ j : Nat, j ≤ d ∧ i = .int .i64 ((d : Int) - 1 - (j : Int)) ∧ v = .int .i64 ((n / 8 ^ j : Nat) : Int) ∧ Aside0 (Lib.Buf W0 W h d (List.replicate (d - j) 48 ++ lows n j))) (fun _ i _ => (RowKit.intOf i + 1).toNat)
  case atStart => exact ⟨0, by omega, by simp, by simp, HB⟩
  case round =>
    clear HB
    obtain ⟨j, hj, rfl, rfl, HB⟩ := hrel
    by_cases hlt : j < d
    · obtain ⟨m, hm⟩ : ∃ m, d = m + 1 + j := ⟨d - 1 - j, by omega⟩
      have hmi : (d : Int) - 1 - (j : Int) = (m : Int) := by omega
      rw [hmi]
      have t1 : decide ((0 : Int) ≤ (m : Int)) = true := decide_eq_true (by omega)
      have hacc : List.replicate (d - j) (48 : UInt8) ++ lows n j = List.replicate m 48 ++ 48 :: lows n j := by
        rw [show d - j = m + 1 by omega, List.replicate_succ']; simp
      have hB' := HB.out
      rw [hacc] at hB'
      have hx : wr.cell? ⟨h, m, none⟩ = some (.int .u8 48) := hB'.holds m 48 (by rw [List.getElem?_append_right (by simp)]; simp)
      have hfz : wr.frozen? ⟨h, m, none⟩ = false := hB'.free m (by omega)
      have hset := hB'.set_ m (by simp) (UInt8.ofNat (48 + n / 8 ^ j % 8))
      have hv : (UInt8.ofNat (48 + n / 8 ^ j % 8)).toNat = 48 + n / 8 ^ j % 8 := by rw [UInt8.toNat_ofNat']; omega
      have hacc2 : (List.replicate m (48 : UInt8) ++ 48 :: lows n j).set m (UInt8.ofNat (48 + n / 8 ^ j % 8)) = List.replicate (d - (j + 1)) 48 ++ lows n (j + 1) := by
        rw [show d - (j + 1) = m by omega, List.set_append_right _ _ (by simp)]
        simp [lows]
      rw [hacc2, hv] at hset
      have hdiv : n / 8 ^ (j + 1) = n / 8 ^ j / 8 := by rw [Nat.pow_succ, Nat.div_div_eq_div_mul]
      obtain ⟨M, hM⟩ : ∃ M, n / 8 ^ j = M := ⟨_, rfl⟩
      have hMn : M ≤ n := by rw [← hM]; exact Nat.div_le_self _ _
      rw [hM] at hset hdiv ⊢
      have HSET := Aside0.mk hset
      have HDIV := Aside0.mk hdiv
      clear hset hdiv hM hv hacc hacc2 hB' hmi
      have i0 : (0 : Int) ≤ (M : Int) := by omega
      have i1 : (m : Int) < (d : Int) := by omega
      go_wp2
      have hand := and7 (M : Int) i0 (by omega)
      have hval : (48 + bits .and .i64 (M : Int) 7) % 256 = ((48 + M % 8 : Nat) : Int) := by rw [hand]; omega
      rw [hval]
      exact ⟨⟨j + 1, by omega, by congr 1; omega, by rw [HDIV.out]; congr 1, HSET⟩, by simp [RowKit.intOf]⟩
    · have hkl : j = d := by omega
      subst hkl
      have t1 : decide ((0 : Int) ≤ (j : Int) - 1 - (j : Int)) = false := decide_eq_false (by omega)
      have hC := Lib.Buf.reads HB.out (by simp [lows_length]; omega)
      have hcv := Kd.C_string (P := Tryd.prog) (A := some ⟨h, 0, none⟩) (c := j) Tryd.underlying22 Tryd.underlying5 Tryd.underlying9 hC
      have hl0 : (Lib.numsL (List.replicate (j - j) 48 ++ lows n j)).length = j := by simp [Lib.numsL, lows_length]
      rw [hl0, str_numsL] at hcv
      have hs0 : (⟨(List.replicate (j - j) 48 ++ lows n j).toArray⟩ : ByteArray) = octS n j := by simp [octS]
      rw [hs0] at hcv
      clear hs0 hl0 hC
      go_wp2
      go_ret
      exact ⟨rfl, HB0.out.trans (HB.out.below.mono (Nat.le_trans HB0.out.size (by have := HH0.out; omega)))⟩
end Go.Proofs.YteblbggmchcijaaDoor
end
