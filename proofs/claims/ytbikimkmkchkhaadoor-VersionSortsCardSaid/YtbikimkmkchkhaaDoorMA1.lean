/- Texts of this claim, one behind the other: PAllx0, PAllx1, PAllx2, PAllx3, StrOrd, PAllx4, HAgainst, Shelf, HCheck, Heap, ParseP, HParse. -/
import Derived.Test.YtbikimkmkchkhaaDoorProg
import Derived.Below
import Derived.Deep.Draws
import Derived.Deep.AppendLies
import Derived.Maps.AppendAt
import Derived.OwnWalk
import Derived.Laws.BytesArg
import Derived.Laws.MakeOwn
import Derived.Laws.OwnMore
import Derived.Deep.OwnRows
import Derived.Tactics
import Derived.Lib.ConvBytes
import Derived.Laws.Slices
import Derived.WalkKit
import Derived.KernelRfl
import Derived.RowKit3
import Derived.Deep.LoopGhost
import Derived.Deep.QuietTactic
import Derived.BigQuiet
import Derived.WideLaws
import Derived.Deep.DeepCutAuto
import Derived.Deep.CutBlock
import Derived.Deep.RegionHeld3
import Derived.Laws.Rows
import Derived.Lib.AppendStr
import Derived.ArgAppend
import Derived.Laws.IdiomCopy
import Derived.OrdersHeld
import Derived.Laws.BitsLemmas
import Derived.RowKit
import Derived.Test.YtbikimkmkchkhaaDoorWWords
import Derived.Test.YtbikimkmkchkhaaDoorWLast
import Derived.Test.YtbikimkmkchkhaaDoorWTab
import Derived.Test.YtbikimkmkchkhaaDoorWFour
import Derived.Test.YtbikimkmkchkhaaDoorWQPut
import Derived.Test.YtbikimkmkchkhaaDoorWApart
import Derived.Test.YtbikimkmkchkhaaDoorWArr
import Derived.Test.YtbikimkmkchkhaaDoorWZeros
import Derived.Test.YtbikimkmkchkhaaDoorWFoot
import Derived.Test.YtbikimkmkchkhaaDoorWKept
import Derived.Test.YtbikimkmkchkhaaDoorWShare
import Derived.Test.YtbikimkmkchkhaaDoorWN
import Derived.Test.YtbikimkmkchkhaaDoorWFootNe
import Derived.Test.YtbikimkmkchkhaaDoorWAt
import Derived.Test.YtbikimkmkchkhaaDoorWEqStruct
import Derived.Test.YtbikimkmkchkhaaDoorWRepsOne
import Derived.Test.YtbikimkmkchkhaaDoorWInv
import Derived.Test.YtbikimkmkchkhaaDoorWInvWords
import Derived.Test.YtbikimkmkchkhaaDoorWGuard
import Derived.Test.YtbikimkmkchkhaaDoorWNEv
import Derived.Test.YtbikimkmkchkhaaDoorWMore
import Derived.Laws.Strings
import Derived.Sort.Walk0
import Derived.Outline
import Derived.WalkSpells
import Derived.Deep.DeepFit
import Derived.Lib.Hide
import Derived.Lib.QuietBelow
import Derived.Shelf.RegionOpen
import Derived.RegionTactic
import Derived.ChangeAlike
import Derived.Shelf.Strings.Builder1
import Derived.Shelf.Strings.Builder2
import Derived.Shelf.Strings.OnBuilder
import Derived.Shelf.Strings.Trim
import Derived.Shelf.Small.Utf8
import Derived.Shelf.Small.Strs
import Derived.Shelf.Small.Wraps
import Derived.Shelf.Strings.BuilderF
import Derived.Shelf.Strings.BuilderK
import Derived.Shelf.Utf8.RuneCount
import Derived.Shelf.Strings.Builder2Cap
import Derived.Shelf.Strconv.Atoi
import Derived.Shelf.Strconv.Itoa0
import Derived.Shelf.Strconv.Itoa1
import Derived.Shelf.LaysM
import Derived.Shelf.Strconv.Itoa2
import Derived.Shelf.Strconv.Itoa3
import Derived.Shelf.Strconv.AtoiErrFast
import Derived.Shelf.Strconv.ParseIntEmpty
import Derived.Shelf.Strconv.AtoiFail
import Derived.Shelf.Strconv.Clone
import Derived.Shelf.Strconv.SyntaxError
import Derived.Shelf.LaysC
import Derived.Shelf.Strconv.ToError
import Derived.Shelf.Strconv.Lower
import Derived.Shelf.Strconv.ParseUint10
import Derived.Shelf.Strconv.ParseUint10Empty
import Derived.Shelf.Strconv.ParseUint10Any
import Derived.Shelf.Strconv.ParseInt10
import Derived.Shelf.Strconv.AtoiLong
import Derived.Shelf.Strconv.AtoiInnerAll
import Derived.Shelf.Strconv.RangeError
import Derived.Shelf.Strconv.ToErrorRange
import Derived.Shelf.Strconv.AtoiAll
import Derived.Shelf.Strconv.ErrVarAll
import Derived.Shelf.Strings.Search1
import Derived.Shelf.Strings.Search2
import Derived.Shelf.Strings.Search3
import Derived.Shelf.Strings.Cut
import Derived.Shelf.Strings.Count
import Derived.Shelf.Strings.Shaped
import Derived.Shelf.Strings.Split
import Derived.Shelf.Strings.SplitShaped
import Derived.Shelf.Unicode.Decode
import Derived.Shelf.Strings.Runes
import Derived.Shelf.Strings.RuneCount
import Derived.Shelf.Strings.AsciiSet
import Derived.Shelf.Strings.Explode
import Derived.Shelf.Unicode.DecodeSlow
import Derived.Shelf.Unicode.DecodeAny
import Derived.Shelf.Unicode.DecodeLast
import Derived.Ground.Names2Prog
import Derived.Shelf.Slices.SearchI
import Derived.Shelf.Strings.SlTrimAscii
import Derived.Laws.NewBlocks
import Derived.Lib.AppendIntMem
section
-- Written by a tool of the kit (print.py) over the laws of this seat at once; Lean checks it.
namespace Go.Proofs.YtbikimkmkchkhaaDoor.PAll
open Go.RowKit Go.Proofs.YtbikimkmkchkhaaDoorW.PrintWords Go.Proofs.YtbikimkmkchkhaaDoorW.PrintLast Go.Proofs.YtbikimkmkchkhaaDoorW.PrintMore
attribute [local go_sem] max2_int min2_int max_two min_two max_three min_three max_four min_four   -- for this text's walks alone
set_option linter.unusedVariables false
set_option linter.unusedSimpArgs false



def errW : Option Int → Value
  | none => .nilIface
  | some c => .iface 79 (.int .i64 c)
theorem errW_none : errW none = .nilIface := rfl
theorem errW_some (c : Int) : errW (some c) = .iface 79 (.int .i64 c) := rfl

theorem info3 : (Tryd.prog.info? 3).map (fun i => (i.zero, i.size, i.bytes)) = some (some (.int .i64 0), 1, 8) := by kernel_rfl
theorem info9 : (Tryd.prog.info? 9).map (fun i => (i.zero, i.size, i.bytes)) = some (some (.string ⟨#[]⟩), 1, 16) := by kernel_rfl
theorem info24 : (Tryd.prog.info? 24).map (fun i => (i.zero, i.size, i.bytes)) = some (some (.agg #[(.slice none 0 0), (.string ⟨#[]⟩)]), 2, 40) := by kernel_rfl
-- the values' own types
def rd_L3 (xs : List (List Int)) (i : Int) : (List Int) := xs.getD i.toNat ([] : List Int)
theorem at_L3 {w : World} {A : Option Addr} {n : Nat} {xs : List (List Int)} (h : Kd.C (Kd.slice 3 (Kd.int .i64)) w A n xs) (i : Int) (h0 : 0 ≤ i) (h1 : i < n) : ∃ ad A0 c0, A = some ad ∧ w.cell? (ad.add i.toNat) = some (.slice A0 (rd_L3 xs i).length c0) ∧ (rd_L3 xs i).length ≤ c0 ∧ (Kd.int .i64).C w A0 (rd_L3 xs i).length (rd_L3 xs i) := by
  obtain ⟨ad, c, e, _, hK, hc0⟩ := Kd.C_get h ([] : List Int) i h0 h1
  have hc : ∀ j u, c[j]? = some u → w.cell? (ad.add (i.toNat * 1 + j)) = some u := hc0
  obtain ⟨A0, c0, rfl, l0, g0⟩ := hK
  exact ⟨ad, A0, c0, e, by have hq := hc 0 _ rfl; rwa [Nat.mul_one, Nat.add_zero] at hq, l0, g0⟩

/-! #### struct type 24 -/
structure S24 where
  f0 : (List Int)
  f1 : ByteArray
def z24 : S24 := ⟨([] : List Int), (⟨#[]⟩ : ByteArray)⟩
def k24 : Kd S24 := Kd.iso (Kd.pair (Kd.slice 3 (Kd.int .i64)) Kd.string) (fun x : S24 => (x.f0, x.f1))
theorem k24_open {w : World} {x : S24} {cs : List Value} (h : k24.K w x cs) : ∃ A0 c0, cs = [.slice A0 x.f0.length c0, .string x.f1] ∧ x.f0.length ≤ c0 ∧ (Kd.int .i64).C w A0 x.f0.length x.f0 := by
  obtain ⟨_, _, rfl, ⟨A0, c0, rfl, l0, g0⟩, rfl⟩ := h
  exact ⟨A0, c0, rfl, l0, g0⟩
theorem k24_openM {w : World} {base : Nat} {ok : Nat → Prop} {x : S24} {cs : List Value} (h : k24.M w base ok x cs) : ∃ v0, cs = [v0, .string x.f1] ∧ (Kd.int .i64).R 3 w base ok v0 x.f0 := by
  obtain ⟨_, _, rfl, ⟨v0, rfl, g0⟩, rfl⟩ := h
  exact ⟨v0, rfl, g0⟩
theorem k24_mk (w : World) (x : S24) {A0 : Option Addr} {c0 : Nat} (l0 : x.f0.length ≤ c0) (g0 : (Kd.int .i64).C w A0 x.f0.length x.f0) : k24.K w x [.slice A0 x.f0.length c0, .string x.f1] := ⟨[.slice A0 x.f0.length c0], [.string x.f1], rfl, ⟨A0, c0, rfl, l0, g0⟩, rfl⟩
theorem k24_mkM (w : World) (base : Nat) (ok : Nat → Prop) (x : S24) {v0 : Value} (g0 : (Kd.int .i64).R 3 w base ok v0 x.f0) : k24.M w base ok x [v0, .string x.f1] := ⟨[v0], [.string x.f1], rfl, ⟨v0, rfl, g0⟩, rfl⟩
theorem k24_openF {W : World} {ok : Nat → Prop} {x : S24} {cs : List Value} (h : Kd.FK k24 W ok x cs) : ∃ A0 c0, cs = [.slice A0 x.f0.length c0, .string x.f1] ∧ x.f0.length ≤ c0 ∧ Kd.F (Kd.int .i64) W ok A0 x.f0.length x.f0 := by
  obtain ⟨A0, c0, rfl, l0, _⟩ := k24_open (Kd.FK_now h)
  exact ⟨A0, c0, rfl, l0, (fun W' hW => by obtain ⟨A0_, c0_, he, l0_, g0_⟩ := k24_open (h W' hW); injection (Option.some.inj (show some (Value.slice A0 x.f0.length c0) = some (Value.slice A0_ x.f0.length c0_) from congrArg (fun l => l[0]?) he)) with ha_ _ _; rw [ha_]; exact g0_)⟩
theorem k24_mkF (W : World) (ok : Nat → Prop) (x : S24) {A0 : Option Addr} {c0 : Nat} (l0 : x.f0.length ≤ c0) (g0 : Kd.F (Kd.int .i64) W ok A0 x.f0.length x.f0) : Kd.FK k24 W ok x [.slice A0 x.f0.length c0, .string x.f1] := fun W2 hW => k24_mk W2 x l0 (g0 W2 hW)
def rd_T24 (xs : List S24) (i : Int) : S24 := xs.getD i.toNat z24
theorem at_T24 {w : World} {A : Option Addr} {n : Nat} {xs : List S24} (h : Kd.C k24 w A n xs) (i : Int) (h0 : 0 ≤ i) (h1 : i < n) : ∃ ad A0 c0, A = some ad ∧ w.cell? (ad.add (i.toNat * 2)) = some (.slice A0 (rd_T24 xs i).f0.length c0) ∧ w.cell? ⟨(ad.add (i.toNat * 2)).block, (ad.add (i.toNat * 2)).off + 1, none⟩ = some (.string (rd_T24 xs i).f1) ∧ (rd_T24 xs i).f0.length ≤ c0 ∧ (Kd.int .i64).C w A0 (rd_T24 xs i).f0.length (rd_T24 xs i).f0 := by
  obtain ⟨ad, c, e, _, hK, hc0⟩ := Kd.C_get h z24 i h0 h1
  have hc : ∀ j u, c[j]? = some u → w.cell? (ad.add (i.toNat * 2 + j)) = some u := hc0
  obtain ⟨A0, c0, rfl, l0, g0⟩ := k24_open hK
  exact ⟨ad, A0, c0, e, hc 0 _ rfl, by rw [← add_field _ _ 1 (by omega)]; exact hc 1 _ rfl, l0, g0⟩

end Go.Proofs.YtbikimkmkchkhaaDoor.PAll
end
section
-- Written by a tool of the kit (print.py) over the laws of this seat at once; Lean checks it.
namespace Go.Proofs.YtbikimkmkchkhaaDoor.PAll
open Go.RowKit Go.Proofs.YtbikimkmkchkhaaDoorW.PrintWords Go.Proofs.YtbikimkmkchkhaaDoorW.PrintLast Go.Proofs.YtbikimkmkchkhaaDoorW.PrintMore
attribute [local go_sem] max2_int min2_int max_two min_two max_three min_three max_four min_four   -- for this text's walks alone
set_option linter.unusedVariables false
set_option linter.unusedSimpArgs false

/-! ### cmp_isNaN_int: function 47 -/
def cmp_isNaN_int.f (a0 : Int) : Option (Bool) := some (a0 != a0)
set_option maxHeartbeats 8000000 in
set_option maxRecDepth 100000 in
theorem cmp_isNaN_int.calls (a0 : Int) (r : Bool) (w : World) (h : cmp_isNaN_int.f a0 = some r) :
    Calls Tryd.prog 47 #[.int .i64 a0] w fun e w' => e = .returned (.bool r) ∧ Drawn0 w w' := by
  have H : (some (a0 != a0)) = some r := h
  clear h
  obtain rfl := Option.some.inj H
  go_enter Tryd.func47, Tryd.ntmps47
  go_wp2
  go_ret
  exact ⟨by first | rfl | (simp; done) | (simp [*]; done), by repeat (first | exact Drawn0.refl _ | apply Drawn0.step)⟩

end Go.Proofs.YtbikimkmkchkhaaDoor.PAll
end
section
-- Written by a tool of the kit (print.py) over the laws of this seat at once; Lean checks it.
namespace Go.Proofs.YtbikimkmkchkhaaDoor.PAll
open Go.RowKit Go.Proofs.YtbikimkmkchkhaaDoorW.PrintWords Go.Proofs.YtbikimkmkchkhaaDoorW.PrintLast Go.Proofs.YtbikimkmkchkhaaDoorW.PrintMore
attribute [local go_sem] max2_int min2_int max_two min_two max_three min_three max_four min_four   -- for this text's walks alone
set_option linter.unusedVariables false
set_option linter.unusedSimpArgs false

/-! ### cmp_Compare_int: function 33 -/
def cmp_Compare_int.f (a0 : Int) (a1 : Int) : Option (Int) := (cmp_isNaN_int.f a0).bind fun t101 => ((cmp_isNaN_int.f a1).bind fun t102 => (if t101 = true then (if t102 = true then (some 0) else (some (-1))) else (if t102 = true then (some 1) else (if a0 < a1 then (some (-1)) else (if a0 > a1 then (some 1) else (some 0))))))
set_option maxHeartbeats 8000000 in
set_option maxRecDepth 100000 in
theorem cmp_Compare_int.calls (a0 : Int) (a1 : Int) (r : Int) (w : World) (h : cmp_Compare_int.f a0 a1 = some r) :
    Calls Tryd.prog 33 #[.int .i64 a0, .int .i64 a1] w fun e w' => e = .returned (.int .i64 r) ∧ Drawn0 w w' := by
  have H : ((cmp_isNaN_int.f a0).bind fun t101 => ((cmp_isNaN_int.f a1).bind fun t102 => (if t101 = true then (if t102 = true then (some 0) else (some (-1))) else (if t102 = true then (some 1) else (if a0 < a1 then (some (-1)) else (if a0 > a1 then (some 1) else (some 0))))))) = some r := h
  clear h
  replace H := Option.bind_eq_some_iff.mp H
  obtain ⟨t101, A30, H⟩ := H
  replace H : ((cmp_isNaN_int.f a1).bind fun t102 => (if t101 = true then (if t102 = true then (some 0) else (some (-1))) else (if t102 = true then (some 1) else (if a0 < a1 then (some (-1)) else (if a0 > a1 then (some 1) else (some 0)))))) = some r := H
  have A3 := Aside0.mk A30
  clear A30
  replace H := Option.bind_eq_some_iff.mp H
  obtain ⟨t102, A40, H⟩ := H
  replace H : (if t101 = true then (if t102 = true then (some 0) else (some (-1))) else (if t102 = true then (some 1) else (if a0 < a1 then (some (-1)) else (if a0 > a1 then (some 1) else (some 0))))) = some r := H
  have A4 := Aside0.mk A40
  clear A40
  by_cases c5 : t101 = true
  · subst c5
    have H1 : (if t102 = true then (some 0) else (some (-1))) = some r := by rw [if_pos rfl] at H; exact H
    clear H
    have H := H1
    clear H1
    by_cases c6 : t102 = true
    · subst c6
      have H1 : (some 0) = some r := by rw [if_pos rfl] at H; exact H
      clear H
      have H := H1
      clear H1
      obtain rfl := Option.some.inj H
      go_enter Tryd.func33, Tryd.ntmps33
      go_wp2_with (first | ((with_reducible refine gate_callee (f := 47) rfl ?_); refine goesL_ (some 8) rfl rfl Tryd.func47 (by kernel_rfl) rfl #[.int .i64 a0] rfl (by (try simp only [List.map_toArray, List.map_cons, List.map_nil]); first | done | rfl | (simp only [List.length_drop, List.length_take]; rfl)) ?_; (with_reducible refine (cmp_isNaN_int.calls a0 true _ A3.out).mono ?_); rintro e w' ⟨rfl, ⟨nd, rfl⟩⟩; refine ⟨_, rfl, ?_⟩) | ((with_reducible refine gate_callee (f := 47) rfl ?_); refine goesL_ (some 10) rfl rfl Tryd.func47 (by kernel_rfl) rfl #[.int .i64 a1] rfl (by (try simp only [List.map_toArray, List.map_cons, List.map_nil]); first | done | rfl | (simp only [List.length_drop, List.length_take]; rfl)) ?_; (with_reducible refine (cmp_isNaN_int.calls a1 true _ A4.out).mono ?_); rintro e w' ⟨rfl, ⟨nd, rfl⟩⟩; refine ⟨_, rfl, ?_⟩))
      go_ret
      exact ⟨by first | rfl | (simp; done) | (simp [*]; done), by repeat (first | exact Drawn0.refl _ | apply Drawn0.step)⟩
    · replace c6 := Bool.eq_false_iff.mpr c6
      subst c6
      have H1 : (some (-1)) = some r := by rw [if_neg (show ¬ (false = true) by decide)] at H; exact H
      clear H
      have H := H1
      clear H1
      obtain rfl := Option.some.inj H
      go_enter Tryd.func33, Tryd.ntmps33
      go_wp2_with (first | ((with_reducible refine gate_callee (f := 47) rfl ?_); refine goesL_ (some 8) rfl rfl Tryd.func47 (by kernel_rfl) rfl #[.int .i64 a0] rfl (by (try simp only [List.map_toArray, List.map_cons, List.map_nil]); first | done | rfl | (simp only [List.length_drop, List.length_take]; rfl)) ?_; (with_reducible refine (cmp_isNaN_int.calls a0 true _ A3.out).mono ?_); rintro e w' ⟨rfl, ⟨nd, rfl⟩⟩; refine ⟨_, rfl, ?_⟩) | ((with_reducible refine gate_callee (f := 47) rfl ?_); refine goesL_ (some 10) rfl rfl Tryd.func47 (by kernel_rfl) rfl #[.int .i64 a1] rfl (by (try simp only [List.map_toArray, List.map_cons, List.map_nil]); first | done | rfl | (simp only [List.length_drop, List.length_take]; rfl)) ?_; (with_reducible refine (cmp_isNaN_int.calls a1 false _ A4.out).mono ?_); rintro e w' ⟨rfl, ⟨nd, rfl⟩⟩; refine ⟨_, rfl, ?_⟩))
      go_ret
      exact ⟨by first | rfl | (simp; done) | (simp [*]; done), by repeat (first | exact Drawn0.refl _ | apply Drawn0.step)⟩
  · replace c5 := Bool.eq_false_iff.mpr c5
    subst c5
    have H1 : (if t102 = true then (some 1) else (if a0 < a1 then (some (-1)) else (if a0 > a1 then (some 1) else (some 0)))) = some r := by rw [if_neg (show ¬ (false = true) by decide)] at H; exact H
    clear H
    have H := H1
    clear H1
    by_cases c7 : t102 = true
    · subst c7
      have H1 : (some 1) = some r := by rw [if_pos rfl] at H; exact H
      clear H
      have H := H1
      clear H1
      obtain rfl := Option.some.inj H
      go_enter Tryd.func33, Tryd.ntmps33
      go_wp2_with (first | ((with_reducible refine gate_callee (f := 47) rfl ?_); refine goesL_ (some 8) rfl rfl Tryd.func47 (by kernel_rfl) rfl #[.int .i64 a0] rfl (by (try simp only [List.map_toArray, List.map_cons, List.map_nil]); first | done | rfl | (simp only [List.length_drop, List.length_take]; rfl)) ?_; (with_reducible refine (cmp_isNaN_int.calls a0 false _ A3.out).mono ?_); rintro e w' ⟨rfl, ⟨nd, rfl⟩⟩; refine ⟨_, rfl, ?_⟩) | ((with_reducible refine gate_callee (f := 47) rfl ?_); refine goesL_ (some 10) rfl rfl Tryd.func47 (by kernel_rfl) rfl #[.int .i64 a1] rfl (by (try simp only [List.map_toArray, List.map_cons, List.map_nil]); first | done | rfl | (simp only [List.length_drop, List.length_take]; rfl)) ?_; (with_reducible refine (cmp_isNaN_int.calls a1 true _ A4.out).mono ?_); rintro e w' ⟨rfl, ⟨nd, rfl⟩⟩; refine ⟨_, rfl, ?_⟩))
      go_ret
      exact ⟨by first | rfl | (simp; done) | (simp [*]; done), by repeat (first | exact Drawn0.refl _ | apply Drawn0.step)⟩
    · replace c7 := Bool.eq_false_iff.mpr c7
      subst c7
      have H1 : (if a0 < a1 then (some (-1)) else (if a0 > a1 then (some 1) else (some 0))) = some r := by rw [if_neg (show ¬ (false = true) by decide)] at H; exact H
      clear H
      have H := H1
      clear H1
      by_cases c8 : a0 < a1
      · rw [if_pos c8] at H
        have c8b0 : decide (a0 < a1) = true := decide_eq_true c8
        clear c8
        obtain rfl := Option.some.inj H
        go_enter Tryd.func33, Tryd.ntmps33
        go_wp2_with (first | ((with_reducible refine gate_callee (f := 47) rfl ?_); refine goesL_ (some 8) rfl rfl Tryd.func47 (by kernel_rfl) rfl #[.int .i64 a0] rfl (by (try simp only [List.map_toArray, List.map_cons, List.map_nil]); first | done | rfl | (simp only [List.length_drop, List.length_take]; rfl)) ?_; (with_reducible refine (cmp_isNaN_int.calls a0 false _ A3.out).mono ?_); rintro e w' ⟨rfl, ⟨nd, rfl⟩⟩; refine ⟨_, rfl, ?_⟩) | ((with_reducible refine gate_callee (f := 47) rfl ?_); refine goesL_ (some 10) rfl rfl Tryd.func47 (by kernel_rfl) rfl #[.int .i64 a1] rfl (by (try simp only [List.map_toArray, List.map_cons, List.map_nil]); first | done | rfl | (simp only [List.length_drop, List.length_take]; rfl)) ?_; (with_reducible refine (cmp_isNaN_int.calls a1 false _ A4.out).mono ?_); rintro e w' ⟨rfl, ⟨nd, rfl⟩⟩; refine ⟨_, rfl, ?_⟩))
        go_ret
        exact ⟨by first | rfl | (simp; done) | (simp [*]; done), by repeat (first | exact Drawn0.refl _ | apply Drawn0.step)⟩
      · rw [if_neg c8] at H
        have c8b0 : decide (a0 < a1) = false := decide_eq_false c8
        clear c8
        by_cases c9 : a0 > a1
        · rw [if_pos c9] at H
          have c9b0 : decide (a1 < a0) = true := decide_eq_true c9
          clear c9
          obtain rfl := Option.some.inj H
          go_enter Tryd.func33, Tryd.ntmps33
          go_wp2_with (first | ((with_reducible refine gate_callee (f := 47) rfl ?_); refine goesL_ (some 8) rfl rfl Tryd.func47 (by kernel_rfl) rfl #[.int .i64 a0] rfl (by (try simp only [List.map_toArray, List.map_cons, List.map_nil]); first | done | rfl | (simp only [List.length_drop, List.length_take]; rfl)) ?_; (with_reducible refine (cmp_isNaN_int.calls a0 false _ A3.out).mono ?_); rintro e w' ⟨rfl, ⟨nd, rfl⟩⟩; refine ⟨_, rfl, ?_⟩) | ((with_reducible refine gate_callee (f := 47) rfl ?_); refine goesL_ (some 10) rfl rfl Tryd.func47 (by kernel_rfl) rfl #[.int .i64 a1] rfl (by (try simp only [List.map_toArray, List.map_cons, List.map_nil]); first | done | rfl | (simp only [List.length_drop, List.length_take]; rfl)) ?_; (with_reducible refine (cmp_isNaN_int.calls a1 false _ A4.out).mono ?_); rintro e w' ⟨rfl, ⟨nd, rfl⟩⟩; refine ⟨_, rfl, ?_⟩))
          go_ret
          exact ⟨by first | rfl | (simp; done) | (simp [*]; done), by repeat (first | exact Drawn0.refl _ | apply Drawn0.step)⟩
        · rw [if_neg c9] at H
          have c9b0 : decide (a1 < a0) = false := decide_eq_false c9
          clear c9
          obtain rfl := Option.some.inj H
          go_enter Tryd.func33, Tryd.ntmps33
          go_wp2_with (first | ((with_reducible refine gate_callee (f := 47) rfl ?_); refine goesL_ (some 8) rfl rfl Tryd.func47 (by kernel_rfl) rfl #[.int .i64 a0] rfl (by (try simp only [List.map_toArray, List.map_cons, List.map_nil]); first | done | rfl | (simp only [List.length_drop, List.length_take]; rfl)) ?_; (with_reducible refine (cmp_isNaN_int.calls a0 false _ A3.out).mono ?_); rintro e w' ⟨rfl, ⟨nd, rfl⟩⟩; refine ⟨_, rfl, ?_⟩) | ((with_reducible refine gate_callee (f := 47) rfl ?_); refine goesL_ (some 10) rfl rfl Tryd.func47 (by kernel_rfl) rfl #[.int .i64 a1] rfl (by (try simp only [List.map_toArray, List.map_cons, List.map_nil]); first | done | rfl | (simp only [List.length_drop, List.length_take]; rfl)) ?_; (with_reducible refine (cmp_isNaN_int.calls a1 false _ A4.out).mono ?_); rintro e w' ⟨rfl, ⟨nd, rfl⟩⟩; refine ⟨_, rfl, ?_⟩))
          go_ret
          exact ⟨by first | rfl | (simp; done) | (simp [*]; done), by repeat (first | exact Drawn0.refl _ | apply Drawn0.step)⟩

end Go.Proofs.YtbikimkmkchkhaaDoor.PAll
end
section
-- Written by a tool of the kit (print.py) over the laws of this seat at once; Lean checks it.
namespace Go.Proofs.YtbikimkmkchkhaaDoor.PAll
open Go.RowKit Go.Proofs.YtbikimkmkchkhaaDoorW.PrintWords Go.Proofs.YtbikimkmkchkhaaDoorW.PrintLast Go.Proofs.YtbikimkmkchkhaaDoorW.PrintMore
attribute [local go_sem] max2_int min2_int max_two min_two max_three min_three max_four min_four   -- for this text's walks alone
set_option linter.unusedVariables false
set_option linter.unusedSimpArgs false

/-! ### cmp_isNaN_string: function 48 -/
def cmp_isNaN_string.f (a0 : ByteArray) : Option (Bool) := some (a0.toList != a0.toList)
set_option maxHeartbeats 8000000 in
set_option maxRecDepth 100000 in
theorem cmp_isNaN_string.calls (a0 : ByteArray) (r : Bool) (w : World) (h : cmp_isNaN_string.f a0 = some r) :
    Calls Tryd.prog 48 #[.string a0] w fun e w' => e = .returned (.bool r) ∧ Drawn0 w w' := by
  have H : (some (a0.toList != a0.toList)) = some r := h
  clear h
  obtain rfl := Option.some.inj H
  go_enter Tryd.func48, Tryd.ntmps48
  go_wp2
  go_ret
  exact ⟨by first | rfl | (simp; done) | (simp [*]; done), by repeat (first | exact Drawn0.refl _ | apply Drawn0.step)⟩

end Go.Proofs.YtbikimkmkchkhaaDoor.PAll
end
section
/- The order of strings, as the print spells it. -/
namespace Go.Proofs.YtbikimkmkchkhaaDoor
open Go

theorem less_iff (a b : List UInt8) : Op.bytesLess a b = decide (a < b) := bytesLess_eq a b
theorem leq_swap (a b : List UInt8) : (Op.bytesLess a b || a == b) = !Op.bytesLess b a := by
  rw [less_iff, less_iff]
  by_cases h : b < a
  · have h1 : ¬ a < b := List.lt_asymm h
    have h2 : ¬ a = b := by rintro rfl; exact List.lt_irrefl _ h
    simp [h, h1, h2]
  · have h1 : a ≤ b := List.not_lt.1 h
    rcases List.le_iff_lt_or_eq.1 h1 with h2 | h2
    · simp [h, h2]
    · subst h2; simp [h]
theorem str_leq (t : TypeId) (a b : ByteArray) : binOp .leq t (.string a) (.string b) = pure (.bool !(Op.bytesLess b.toList a.toList)) := by rw [← leq_swap]; simp [binOp, Op.stringOp]
theorem str_gtr (t : TypeId) (a b : ByteArray) : binOp .gtr t (.string a) (.string b) = pure (.bool (Op.bytesLess b.toList a.toList)) := by rw [← Bool.not_not (Op.bytesLess b.toList a.toList), ← leq_swap]; simp [binOp, Op.stringOp]
theorem str_geq (t : TypeId) (a b : ByteArray) : binOp .geq t (.string a) (.string b) = pure (.bool !(Op.bytesLess a.toList b.toList)) := by simp [binOp, Op.stringOp]
end Go.Proofs.YtbikimkmkchkhaaDoor
end
section
-- Written by a tool of the kit (print.py) over the laws of this seat at once; Lean checks it.
namespace Go.Proofs.YtbikimkmkchkhaaDoor.PAll
open Go.RowKit Go.Proofs.YtbikimkmkchkhaaDoorW.PrintWords Go.Proofs.YtbikimkmkchkhaaDoorW.PrintLast Go.Proofs.YtbikimkmkchkhaaDoorW.PrintMore
attribute [local go_sem] Go.Proofs.YtbikimkmkchkhaaDoor.str_leq Go.Proofs.YtbikimkmkchkhaaDoor.str_gtr Go.Proofs.YtbikimkmkchkhaaDoor.str_geq
attribute [local go_sem] max2_int min2_int max_two min_two max_three min_three max_four min_four   -- for this text's walks alone
set_option linter.unusedVariables false
set_option linter.unusedSimpArgs false

/-! ### cmp_Compare_string: function 34 -/
def cmp_Compare_string.f (a0 : ByteArray) (a1 : ByteArray) : Option (Int) := (cmp_isNaN_string.f a0).bind fun t103 => ((cmp_isNaN_string.f a1).bind fun t104 => (if t103 = true then (if t104 = true then (some 0) else (some (-1))) else (if t104 = true then (some 1) else (if (Op.bytesLess a0.toList a1.toList) = true then (some (-1)) else (if (Op.bytesLess a1.toList a0.toList) = true then (some 1) else (some 0))))))
set_option maxHeartbeats 8000000 in
set_option maxRecDepth 100000 in
theorem cmp_Compare_string.calls (a0 : ByteArray) (a1 : ByteArray) (r : Int) (w : World) (h : cmp_Compare_string.f a0 a1 = some r) :
    Calls Tryd.prog 34 #[.string a0, .string a1] w fun e w' => e = .returned (.int .i64 r) ∧ Drawn0 w w' := by
  have H : ((cmp_isNaN_string.f a0).bind fun t103 => ((cmp_isNaN_string.f a1).bind fun t104 => (if t103 = true then (if t104 = true then (some 0) else (some (-1))) else (if t104 = true then (some 1) else (if (Op.bytesLess a0.toList a1.toList) = true then (some (-1)) else (if (Op.bytesLess a1.toList a0.toList) = true then (some 1) else (some 0))))))) = some r := h
  clear h
  replace H := Option.bind_eq_some_iff.mp H
  obtain ⟨t103, A30, H⟩ := H
  replace H : ((cmp_isNaN_string.f a1).bind fun t104 => (if t103 = true then (if t104 = true then (some 0) else (some (-1))) else (if t104 = true then (some 1) else (if (Op.bytesLess a0.toList a1.toList) = true then (some (-1)) else (if (Op.bytesLess a1.toList a0.toList) = true then (some 1) else (some 0)))))) = some r := H
  have A3 := Aside0.mk A30
  clear A30
  replace H := Option.bind_eq_some_iff.mp H
  obtain ⟨t104, A40, H⟩ := H
  replace H : (if t103 = true then (if t104 = true then (some 0) else (some (-1))) else (if t104 = true then (some 1) else (if (Op.bytesLess a0.toList a1.toList) = true then (some (-1)) else (if (Op.bytesLess a1.toList a0.toList) = true then (some 1) else (some 0))))) = some r := H
  have A4 := Aside0.mk A40
  clear A40
  by_cases c5 : t103 = true
  · subst c5
    have H1 : (if t104 = true then (some 0) else (some (-1))) = some r := by rw [if_pos rfl] at H; exact H
    clear H
    have H := H1
    clear H1
    by_cases c6 : t104 = true
    · subst c6
      have H1 : (some 0) = some r := by rw [if_pos rfl] at H; exact H
      clear H
      have H := H1
      clear H1
      obtain rfl := Option.some.inj H
      go_enter Tryd.func34, Tryd.ntmps34
      go_wp2_with (first | ((with_reducible refine gate_callee (f := 48) rfl ?_); refine goesL_ (some 8) rfl rfl Tryd.func48 (by kernel_rfl) rfl #[.string a0] rfl (by (try simp only [List.map_toArray, List.map_cons, List.map_nil]); first | done | rfl | (simp only [List.length_drop, List.length_take]; rfl)) ?_; (with_reducible refine (cmp_isNaN_string.calls a0 true _ A3.out).mono ?_); rintro e w' ⟨rfl, ⟨nd, rfl⟩⟩; refine ⟨_, rfl, ?_⟩) | ((with_reducible refine gate_callee (f := 48) rfl ?_); refine goesL_ (some 10) rfl rfl Tryd.func48 (by kernel_rfl) rfl #[.string a1] rfl (by (try simp only [List.map_toArray, List.map_cons, List.map_nil]); first | done | rfl | (simp only [List.length_drop, List.length_take]; rfl)) ?_; (with_reducible refine (cmp_isNaN_string.calls a1 true _ A4.out).mono ?_); rintro e w' ⟨rfl, ⟨nd, rfl⟩⟩; refine ⟨_, rfl, ?_⟩))
      go_ret
      exact ⟨by first | rfl | (simp; done) | (simp [*]; done), by repeat (first | exact Drawn0.refl _ | apply Drawn0.step)⟩
    · replace c6 := Bool.eq_false_iff.mpr c6
      subst c6
      have H1 : (some (-1)) = some r := by rw [if_neg (show ¬ (false = true) by decide)] at H; exact H
      clear H
      have H := H1
      clear H1
      obtain rfl := Option.some.inj H
      go_enter Tryd.func34, Tryd.ntmps34
      go_wp2_with (first | ((with_reducible refine gate_callee (f := 48) rfl ?_); refine goesL_ (some 8) rfl rfl Tryd.func48 (by kernel_rfl) rfl #[.string a0] rfl (by (try simp only [List.map_toArray, List.map_cons, List.map_nil]); first | done | rfl | (simp only [List.length_drop, List.length_take]; rfl)) ?_; (with_reducible refine (cmp_isNaN_string.calls a0 true _ A3.out).mono ?_); rintro e w' ⟨rfl, ⟨nd, rfl⟩⟩; refine ⟨_, rfl, ?_⟩) | ((with_reducible refine gate_callee (f := 48) rfl ?_); refine goesL_ (some 10) rfl rfl Tryd.func48 (by kernel_rfl) rfl #[.string a1] rfl (by (try simp only [List.map_toArray, List.map_cons, List.map_nil]); first | done | rfl | (simp only [List.length_drop, List.length_take]; rfl)) ?_; (with_reducible refine (cmp_isNaN_string.calls a1 false _ A4.out).mono ?_); rintro e w' ⟨rfl, ⟨nd, rfl⟩⟩; refine ⟨_, rfl, ?_⟩))
      go_ret
      exact ⟨by first | rfl | (simp; done) | (simp [*]; done), by repeat (first | exact Drawn0.refl _ | apply Drawn0.step)⟩
  · replace c5 := Bool.eq_false_iff.mpr c5
    subst c5
    have H1 : (if t104 = true then (some 1) else (if (Op.bytesLess a0.toList a1.toList) = true then (some (-1)) else (if (Op.bytesLess a1.toList a0.toList) = true then (some 1) else (some 0)))) = some r := by rw [if_neg (show ¬ (false = true) by decide)] at H; exact H
    clear H
    have H := H1
    clear H1
    by_cases c7 : t104 = true
    · subst c7
      have H1 : (some 1) = some r := by rw [if_pos rfl] at H; exact H
      clear H
      have H := H1
      clear H1
      obtain rfl := Option.some.inj H
      go_enter Tryd.func34, Tryd.ntmps34
      go_wp2_with (first | ((with_reducible refine gate_callee (f := 48) rfl ?_); refine goesL_ (some 8) rfl rfl Tryd.func48 (by kernel_rfl) rfl #[.string a0] rfl (by (try simp only [List.map_toArray, List.map_cons, List.map_nil]); first | done | rfl | (simp only [List.length_drop, List.length_take]; rfl)) ?_; (with_reducible refine (cmp_isNaN_string.calls a0 false _ A3.out).mono ?_); rintro e w' ⟨rfl, ⟨nd, rfl⟩⟩; refine ⟨_, rfl, ?_⟩) | ((with_reducible refine gate_callee (f := 48) rfl ?_); refine goesL_ (some 10) rfl rfl Tryd.func48 (by kernel_rfl) rfl #[.string a1] rfl (by (try simp only [List.map_toArray, List.map_cons, List.map_nil]); first | done | rfl | (simp only [List.length_drop, List.length_take]; rfl)) ?_; (with_reducible refine (cmp_isNaN_string.calls a1 true _ A4.out).mono ?_); rintro e w' ⟨rfl, ⟨nd, rfl⟩⟩; refine ⟨_, rfl, ?_⟩))
      go_ret
      exact ⟨by first | rfl | (simp; done) | (simp [*]; done), by repeat (first | exact Drawn0.refl _ | apply Drawn0.step)⟩
    · replace c7 := Bool.eq_false_iff.mpr c7
      subst c7
      have H1 : (if (Op.bytesLess a0.toList a1.toList) = true then (some (-1)) else (if (Op.bytesLess a1.toList a0.toList) = true then (some 1) else (some 0))) = some r := by rw [if_neg (show ¬ (false = true) by decide)] at H; exact H
      clear H
      have H := H1
      clear H1
      by_cases c8 : (Op.bytesLess a0.toList a1.toList) = true
      · rw [if_pos c8] at H
        have c8b0 : (Op.bytesLess a0.toList a1.toList) = true := c8
        clear c8
        obtain rfl := Option.some.inj H
        go_enter Tryd.func34, Tryd.ntmps34
        go_wp2_with (first | ((with_reducible refine gate_callee (f := 48) rfl ?_); refine goesL_ (some 8) rfl rfl Tryd.func48 (by kernel_rfl) rfl #[.string a0] rfl (by (try simp only [List.map_toArray, List.map_cons, List.map_nil]); first | done | rfl | (simp only [List.length_drop, List.length_take]; rfl)) ?_; (with_reducible refine (cmp_isNaN_string.calls a0 false _ A3.out).mono ?_); rintro e w' ⟨rfl, ⟨nd, rfl⟩⟩; refine ⟨_, rfl, ?_⟩) | ((with_reducible refine gate_callee (f := 48) rfl ?_); refine goesL_ (some 10) rfl rfl Tryd.func48 (by kernel_rfl) rfl #[.string a1] rfl (by (try simp only [List.map_toArray, List.map_cons, List.map_nil]); first | done | rfl | (simp only [List.length_drop, List.length_take]; rfl)) ?_; (with_reducible refine (cmp_isNaN_string.calls a1 false _ A4.out).mono ?_); rintro e w' ⟨rfl, ⟨nd, rfl⟩⟩; refine ⟨_, rfl, ?_⟩))
        go_ret
        exact ⟨by first | rfl | (simp; done) | (simp [*]; done), by repeat (first | exact Drawn0.refl _ | apply Drawn0.step)⟩
      · rw [if_neg c8] at H
        have c8b0 : (Op.bytesLess a0.toList a1.toList) = false := by simpa using c8
        clear c8
        by_cases c9 : (Op.bytesLess a1.toList a0.toList) = true
        · rw [if_pos c9] at H
          have c9b0 : (Op.bytesLess a1.toList a0.toList) = true := c9
          clear c9
          obtain rfl := Option.some.inj H
          go_enter Tryd.func34, Tryd.ntmps34
          go_wp2_with (first | ((with_reducible refine gate_callee (f := 48) rfl ?_); refine goesL_ (some 8) rfl rfl Tryd.func48 (by kernel_rfl) rfl #[.string a0] rfl (by (try simp only [List.map_toArray, List.map_cons, List.map_nil]); first | done | rfl | (simp only [List.length_drop, List.length_take]; rfl)) ?_; (with_reducible refine (cmp_isNaN_string.calls a0 false _ A3.out).mono ?_); rintro e w' ⟨rfl, ⟨nd, rfl⟩⟩; refine ⟨_, rfl, ?_⟩) | ((with_reducible refine gate_callee (f := 48) rfl ?_); refine goesL_ (some 10) rfl rfl Tryd.func48 (by kernel_rfl) rfl #[.string a1] rfl (by (try simp only [List.map_toArray, List.map_cons, List.map_nil]); first | done | rfl | (simp only [List.length_drop, List.length_take]; rfl)) ?_; (with_reducible refine (cmp_isNaN_string.calls a1 false _ A4.out).mono ?_); rintro e w' ⟨rfl, ⟨nd, rfl⟩⟩; refine ⟨_, rfl, ?_⟩))
          go_ret
          exact ⟨by first | rfl | (simp; done) | (simp [*]; done), by repeat (first | exact Drawn0.refl _ | apply Drawn0.step)⟩
        · rw [if_neg c9] at H
          have c9b0 : (Op.bytesLess a1.toList a0.toList) = false := by simpa using c9
          clear c9
          obtain rfl := Option.some.inj H
          go_enter Tryd.func34, Tryd.ntmps34
          go_wp2_with (first | ((with_reducible refine gate_callee (f := 48) rfl ?_); refine goesL_ (some 8) rfl rfl Tryd.func48 (by kernel_rfl) rfl #[.string a0] rfl (by (try simp only [List.map_toArray, List.map_cons, List.map_nil]); first | done | rfl | (simp only [List.length_drop, List.length_take]; rfl)) ?_; (with_reducible refine (cmp_isNaN_string.calls a0 false _ A3.out).mono ?_); rintro e w' ⟨rfl, ⟨nd, rfl⟩⟩; refine ⟨_, rfl, ?_⟩) | ((with_reducible refine gate_callee (f := 48) rfl ?_); refine goesL_ (some 10) rfl rfl Tryd.func48 (by kernel_rfl) rfl #[.string a1] rfl (by (try simp only [List.map_toArray, List.map_cons, List.map_nil]); first | done | rfl | (simp only [List.length_drop, List.length_take]; rfl)) ?_; (with_reducible refine (cmp_isNaN_string.calls a1 false _ A4.out).mono ?_); rintro e w' ⟨rfl, ⟨nd, rfl⟩⟩; refine ⟨_, rfl, ?_⟩))
          go_ret
          exact ⟨by first | rfl | (simp; done) | (simp [*]; done), by repeat (first | exact Drawn0.refl _ | apply Drawn0.step)⟩

end Go.Proofs.YtbikimkmkchkhaaDoor.PAll
end
section
/- (ranked).part and (ranked).against: the order of versions. -/
namespace Go.Proofs.YtbikimkmkchkhaaDoor.PAll
open Go.RowKit Go.Lib Go.Proofs.YtbikimkmkchkhaaDoorW.PrintWords Go.Proofs.YtbikimkmkchkhaaDoorW.PrintLast Go.Proofs.YtbikimkmkchkhaaDoorW.PrintMore
attribute [local go_sem] Oper.semAt_some
set_option linter.unusedVariables false
set_option linter.unusedSimpArgs false

theorem rd_far {l : List Int} {k : Nat} (h : l.length ≤ k) : rd l (k : Int) = 0 := by
  unfold rd; rw [List.getD_eq_getElem?_getD, Int.toNat_natCast, List.getElem?_eq_none h]; rfl
set_option maxHeartbeats 2000000 in
theorem part_calls (A : Option Addr) (c : Nat) (l : List Int) (t : ByteArray) (k : Nat) (w : World) (hC : Kd.C (Kd.int .i64) w A l.length l) (hk : k ≤ 9223372036854775807) :
    Calls Tryd.prog 32 #[.agg #[.slice A l.length c, .string t], .int .i64 (k : Int)] w fun e w' => e = .returned (.int .i64 (rd l (k : Int))) ∧ Below w.heap.size w w' := by
  have hB := (Below.refl w.heap.size w).alloc (Nat.le_refl _) (.cells #[.slice A l.length c, .string t] 43)
  by_cases hlt : k < l.length
  · obtain ⟨ad, rfl, hcell⟩ := Kd.at_int hC (k : Int) (by omega) (by omega)
    rw [Int.toNat_natCast] at hcell
    have hcell' := (hB.cell (World.block_lt_of_cell? w _ hcell)).trans hcell
    go_enter Tryd.func32, Tryd.ntmps32
    go_wp2
    go_ret
    exact ⟨rfl, hB⟩
  · rw [rd_far (by omega)]
    go_enter Tryd.func32, Tryd.ntmps32
    go_wp2
    go_ret
    exact ⟨rfl, hB⟩
theorem ret_int {a b : Int} (h : a = b) : Ending.returned (.int .i64 a) = .returned (.int .i64 b) := by rw [h]
def cmpI (a b : Int) : Int := if a < b then -1 else if a > b then 1 else 0
theorem cmpI_f (a b : Int) : cmp_Compare_int.f a b = some (cmpI a b) := by
  unfold cmp_Compare_int.f cmp_isNaN_int.f cmpI
  simp only [Option.bind_some, bne_self_eq_false, Bool.false_eq_true, if_false]
  by_cases h : a < b
  · rw [if_pos h, if_pos h]
  · rw [if_neg h, if_neg h]
    by_cases h2 : a > b
    · rw [if_pos h2, if_pos h2]
    · rw [if_neg h2, if_neg h2]
/-- The first part that differs, from place i on. -/
def firstDiff (p q : List Int) : Nat → Nat → Int
  | 0, _ => 0
  | n + 1, i => if cmpI (rd p (i : Int)) (rd q (i : Int)) = 0 then firstDiff p q n (i + 1) else cmpI (rd p (i : Int)) (rd q (i : Int))
def cmpT (t u : ByteArray) : Int := if t.toList = u.toList then 0 else if t.toList = [] then 1 else if u.toList = [] then -1 else if Op.bytesLess t.toList u.toList = true then -1 else 1
def cmpV (p : List Int) (t : ByteArray) (q : List Int) (u : ByteArray) : Int := if firstDiff p q (max p.length q.length) 0 = 0 then cmpT t u else firstDiff p q (max p.length q.length) 0

def cmpS (t u : ByteArray) : Int := if Op.bytesLess t.toList u.toList = true then -1 else if Op.bytesLess u.toList t.toList = true then 1 else 0
theorem cmpS_f (t u : ByteArray) : cmp_Compare_string.f t u = some (cmpS t u) := by
  unfold cmp_Compare_string.f cmp_isNaN_string.f cmpS
  simp only [Option.bind_some, bne_self_eq_false, Bool.false_eq_true, if_false]
  by_cases h : Op.bytesLess t.toList u.toList = true
  · rw [if_pos h, if_pos h]
  · rw [if_neg h, if_neg h]
    by_cases h2 : Op.bytesLess u.toList t.toList = true
    · rw [if_pos h2, if_pos h2]
    · rw [if_neg h2, if_neg h2]
theorem less_irr (l : List UInt8) : ¬ Op.bytesLess l l = true := by rw [YtbikimkmkchkhaaDoor.less_iff]; simp [List.lt_irrefl]
theorem less_tri {a b : List UInt8} (h1 : ¬ Op.bytesLess a b = true) (h2 : ¬ Op.bytesLess b a = true) : a = b := by
  rw [YtbikimkmkchkhaaDoor.less_iff, decide_eq_true_eq] at h1 h2
  rcases List.le_iff_lt_or_eq.1 (List.not_lt.1 h1) with h | h
  · exact absurd h h2
  · exact h.symm
theorem cmpT_S {t u : ByteArray} (h : t.toList = [] ↔ u.toList = []) : cmpT t u = cmpS t u := by
  unfold cmpT cmpS
  by_cases e : t.toList = u.toList
  · rw [if_pos e, e, if_neg (less_irr _), if_neg (less_irr _)]
  · rw [if_neg e, if_neg (fun h1 => e (h1.trans (h.1 h1).symm)), if_neg (fun h1 => e ((h.2 h1).trans h1.symm))]
    by_cases hl : Op.bytesLess t.toList u.toList = true
    · rw [if_pos hl, if_pos hl]
    · rw [if_neg hl, if_neg hl]
      by_cases h2 : Op.bytesLess u.toList t.toList = true
      · rw [if_pos h2]
      · exact absurd (less_tri hl h2) e
theorem size_pos {t : ByteArray} (h : ¬ t.toList = []) : 0 < t.size := by
  have e : t.toList.length = t.size := by rw [ByteArray.toList_eq]; exact Array.length_toList
  rcases Nat.eq_zero_or_pos t.size with h0 | h0
  · exact absurd (List.length_eq_zero_iff.1 (e.trans h0)) h
  · exact h0
theorem empty_of {t : ByteArray} (h : t.toList = []) : t = ⟨#[]⟩ := by
  have e : t.toList.length = t.size := by rw [ByteArray.toList_eq]; exact Array.length_toList
  rw [h] at e
  cases t with
  | mk d => congr 1; exact Array.eq_empty_of_size_eq_zero e.symm

set_option maxHeartbeats 4000000 in
theorem against_calls (A : Option Addr) (c : Nat) (p : List Int) (t : ByteArray) (B : Option Addr) (d : Nat) (q : List Int) (u : ByteArray) (w : World) (hC : Kd.C (Kd.int .i64) w A p.length p) (hD : Kd.C (Kd.int .i64) w B q.length q)
    (hp : p.length ≤ 140737488355328) (hq : q.length ≤ 140737488355328) (ht : t.size ≤ 9223372036854775807) (hu : u.size ≤ 9223372036854775807) :
    Calls Tryd.prog 21 #[.agg #[.slice A p.length c, .string t], .agg #[.slice B q.length d, .string u]] w fun e w' => e = .returned (.int .i64 (cmpV p t q u)) ∧ Below w.heap.size w w' := by
  have hB0 := ((Below.refl w.heap.size w).alloc (Nat.le_refl _) (.cells #[.slice A p.length c, .string t] 43)).alloc (by simp) (.cells #[.slice B q.length d, .string u] 43)
  go_enter Tryd.func21, Tryd.ntmps21
  go_wp2
  go_region
  all_goals
    go_wp2
    have hB1 := hB0.drew
    have x0 : (((w.alloc (.cells #[.slice A p.length c, .string t] 43)).alloc (.cells #[.slice B q.length d, .string u] 43)).drew).cell? ⟨w.heap.size, 0, none⟩ = some (.slice A p.length c) := by go_simp
    have x1 : (((w.alloc (.cells #[.slice A p.length c, .string t] 43)).alloc (.cells #[.slice B q.length d, .string u] 43)).drew).cell? ⟨w.heap.size, 1, none⟩ = some (.string t) := by go_simp
    have y0 : (((w.alloc (.cells #[.slice A p.length c, .string t] 43)).alloc (.cells #[.slice B q.length d, .string u] 43)).drew).cell? ⟨w.heap.size + 1, 0, none⟩ = some (.slice B q.length d) := by go_simp
    have y1 : (((w.alloc (.cells #[.slice A p.length c, .string t] 43)).alloc (.cells #[.slice B q.length d, .string u] 43)).drew).cell? ⟨w.heap.size + 1, 1, none⟩ = some (.string u) := by go_simp
    have hs1 : (((w.alloc (.cells #[.slice A p.length c, .string t] 43)).alloc (.cells #[.slice B q.length d, .string u] 43)).drew).heap.size = w.heap.size + 2 := by simp
    generalize ((w.alloc (.cells #[.slice A p.length c, .string t] 43)).alloc (.cells #[.slice B q.length d, .string u] 43)).drew = W1 at *
    clear hB0
    have X0 := Aside0.mk x0; have X1 := Aside0.mk x1; have Y0 := Aside0.mk y0; have Y1 := Aside0.mk y1; have HS := Aside0.mk hs1; have HB := Aside0.mk hB1; have HC := Aside0.mk hC; have HD := Aside0.mk hD
    clear x0 x1 y0 y1 hs1 hB1 hC hD
    obtain ⟨m, hm⟩ : ∃ m : Nat, max p.length q.length = m := ⟨_, rfl⟩
    have hmi : max (p.length : Int) (q.length : Int) = (m : Int) := by omega
    have hm1 : m ≤ 140737488355328 := by omega
    rw [hmi]
    have HM := Aside0.mk hm
    clear hm hmi
    go_loopw [20] (fun v W => ∃ k : Nat, v = .int .i64 (k : Int) ∧ k ≤ m ∧ Aside0 (firstDiff p q (m - k) k = firstDiff p q m 0) ∧ Aside0 (Below W1.heap.size W1 W)) (fun v _ => m - (RowKit.intOf v).toNat)
    case atStart => exact ⟨0, rfl, Nat.zero_le _, ⟨by rw [Nat.sub_zero]⟩, ⟨Below.refl _ _⟩⟩
    case round =>
      obtain ⟨k, rfl, hk, HF, HW⟩ := hrel
      have HBW := HB.out.trans (HW.out.mono (by have := HS.out; omega))
      have CW := Kd.C_below HC.out HBW
      have DW := Kd.C_below HD.out HBW
      have c0 : wr.cell? ⟨w.heap.size, 0, none⟩ = some (.slice A p.length c) := (HW.out.cell (World.block_lt_of_cell? _ _ X0.out)).trans X0.out
      have c1 : wr.cell? ⟨w.heap.size, 1, none⟩ = some (.string t) := (HW.out.cell (World.block_lt_of_cell? _ _ X1.out)).trans X1.out
      have d0 : wr.cell? ⟨w.heap.size + 1, 0, none⟩ = some (.slice B q.length d) := (HW.out.cell (World.block_lt_of_cell? _ _ Y0.out)).trans Y0.out
      have d1 : wr.cell? ⟨w.heap.size + 1, 1, none⟩ = some (.string u) := (HW.out.cell (World.block_lt_of_cell? _ _ Y1.out)).trans Y1.out
      have HBW' := Aside0.mk HBW
      have CW' := Aside0.mk CW
      have DW' := Aside0.mk DW
      clear HBW CW DW
      by_cases hlt : k < m
      · have b1 : decide ((k : Int) < (m : Int)) = true := decide_eq_true (by omega)
        by_cases hz : cmpI (rd p (k : Int)) (rd q (k : Int)) = 0
        · have b2 : (cmpI (rd p (k : Int)) (rd q (k : Int)) != 0) = false := by simp [hz]
          have HF' : Aside0 (firstDiff p q (m - (k + 1)) (k + 1) = firstDiff p q m 0) := ⟨by
            rw [← HF.out, show m - k = (m - (k + 1)) + 1 by omega, firstDiff, if_pos hz]⟩
          clear hz
          go_wp2_with fail
          refine (part_calls A c p t k _ CW'.out (by omega)).mono ?_
          rintro e w1 ⟨rfl, hb1⟩
          have H1 := Aside0.mk hb1
          clear hb1
          go_wp2_with fail
          refine (part_calls B d q u k _ (Kd.C_below DW'.out H1.out) (by omega)).mono ?_
          rintro e w2 ⟨rfl, hb2⟩
          have H2 := Aside0.mk hb2
          clear hb2
          go_wp2_with fail
          refine (cmp_Compare_int.calls _ _ _ _ (cmpI_f _ _)).mono ?_
          rintro e w3 ⟨rfl, hd3⟩
          obtain ⟨n3, rfl⟩ := hd3
          go_wp2
          go_roundw
          case rel => exact ⟨k + 1, by go_num, by omega, HF', ⟨pw_below_drewN (HW.out.trans ((H1.out.mono HW.out.size).trans (H2.out.mono (Nat.le_trans HW.out.size H1.out.size)))) _⟩⟩
          case measure => simp [RowKit.intOf]; omega
        · have b2 : (cmpI (rd p (k : Int)) (rd q (k : Int)) != 0) = true := by simp [hz]
          have HV : Aside0 (cmpV p t q u = cmpI (rd p (k : Int)) (rd q (k : Int))) := ⟨by
            have e : firstDiff p q m 0 = cmpI (rd p (k : Int)) (rd q (k : Int)) := by
              rw [← HF.out, show m - k = (m - k - 1) + 1 by omega, firstDiff, if_neg hz]
            unfold cmpV
            rw [HM.out, e, if_neg hz]⟩
          clear hz
          go_wp2_with fail
          refine (part_calls A c p t k _ CW'.out (by omega)).mono ?_
          rintro e w1 ⟨rfl, hb1⟩
          have H1 := Aside0.mk hb1
          clear hb1
          go_wp2_with fail
          refine (part_calls B d q u k _ (Kd.C_below DW'.out H1.out) (by omega)).mono ?_
          rintro e w2 ⟨rfl, hb2⟩
          have H2 := Aside0.mk hb2
          clear hb2
          go_wp2_with fail
          refine (cmp_Compare_int.calls _ _ _ _ (cmpI_f _ _)).mono ?_
          rintro e w3 ⟨rfl, hd3⟩
          obtain ⟨n3, rfl⟩ := hd3
          go_wp2
          go_ret
          exact ⟨ret_int (HV.out).symm, pw_below_drewN (HBW'.out.trans ((H1.out.mono (by have := HBW'.out.size; omega)).trans (H2.out.mono (by have := HBW'.out.size; have := H1.out.size; omega)))) _⟩
      · have b1 : decide ((k : Int) < (m : Int)) = false := decide_eq_false (by omega)
        have HV : Aside0 (cmpV p t q u = cmpT t u) := ⟨by
          have e : firstDiff p q m 0 = 0 := by rw [← HF.out, show m - k = 0 by omega]; rfl
          unfold cmpV
          rw [HM.out, e, if_pos rfl]⟩
        by_cases ht0 : t.toList = []
        · obtain rfl := empty_of ht0
          by_cases hu0 : u.toList = []
          · obtain rfl := empty_of hu0
            clear ht0 hu0
            go_wp2_with fail
            refine (cmp_Compare_string.calls _ _ _ _ (cmpS_f _ _)).mono ?_
            rintro e w1 ⟨rfl, hd1⟩
            obtain ⟨n1, rfl⟩ := hd1
            go_wp2
            go_ret
            exact ⟨ret_int (HV.out.trans (cmpT_S Iff.rfl)).symm, pw_below_drewN HBW'.out _⟩
          · have hs := size_pos hu0
            have e1 : u.toList.isEmpty = false := by simpa using hu0
            have HX : Aside0 (cmpV p ⟨#[]⟩ q u = cmpI (u.size : Int) 0) := ⟨by
              rw [HV.out]
              unfold cmpT cmpI
              rw [if_neg (fun h => hu0 (h.symm.trans ht0)), if_pos ht0, if_neg (by omega), if_pos (by omega)]⟩
            go_wp2_with fail
            refine (cmp_Compare_int.calls _ _ _ _ (cmpI_f _ _)).mono ?_
            rintro e w1 ⟨rfl, hd1⟩
            obtain ⟨n1, rfl⟩ := hd1
            go_wp2
            go_ret
            exact ⟨ret_int (HX.out).symm, pw_below_drewN HBW'.out _⟩
        · have hs := size_pos ht0
          have e1 : t.toList.isEmpty = false := by simpa using ht0
          by_cases hu0 : u.toList = []
          · obtain rfl := empty_of hu0
            have HX : Aside0 (cmpV p t q ⟨#[]⟩ = cmpI 0 (t.size : Int)) := ⟨by
              rw [HV.out]
              unfold cmpT cmpI
              rw [if_neg (fun h => ht0 (h.trans hu0)), if_neg ht0, if_pos hu0, if_pos (by omega)]⟩
            go_wp2_with fail
            refine (cmp_Compare_int.calls _ _ _ _ (cmpI_f _ _)).mono ?_
            rintro e w1 ⟨rfl, hd1⟩
            obtain ⟨n1, rfl⟩ := hd1
            go_wp2
            go_ret
            exact ⟨ret_int (HX.out).symm, pw_below_drewN HBW'.out _⟩
          · have hs2 := size_pos hu0
            have e2 : u.toList.isEmpty = false := by simpa using hu0
            go_wp2_with fail
            refine (cmp_Compare_string.calls _ _ _ _ (cmpS_f _ _)).mono ?_
            rintro e w1 ⟨rfl, hd1⟩
            obtain ⟨n1, rfl⟩ := hd1
            go_wp2
            go_ret
            exact ⟨ret_int (HV.out.trans (cmpT_S ⟨fun h => absurd h ht0, fun h => absurd h hu0⟩)).symm, pw_below_drewN HBW'.out _⟩
def fits (p : List Int) (t : ByteArray) (q : List Int) (u : ByteArray) : Bool := decide (p.length ≤ 140737488355328) && decide (q.length ≤ 140737488355328) && decide (t.size ≤ 9223372036854775807) && decide (u.size ≤ 9223372036854775807)
def version_ranked_against.f (l0_0 : List Int) (a0_1 : ByteArray) (l1_0 : List Int) (a1_1 : ByteArray) : Option Int := if fits l0_0 a0_1 l1_0 a1_1 then some (cmpV l0_0 a0_1 l1_0 a1_1) else none
theorem version_ranked_against.calls (A0_0 : Option Addr) (c0_0 : Nat) (l0_0 : List Int) (a0_1 : ByteArray) (A1_0 : Option Addr) (c1_0 : Nat) (l1_0 : List Int) (a1_1 : ByteArray) (r : Int) (w : World) (hr0_0 : Kd.C (Kd.int .i64) w A0_0 l0_0.length l0_0) (hc0_0 : l0_0.length ≤ c0_0) (hr1_0 : Kd.C (Kd.int .i64) w A1_0 l1_0.length l1_0) (hc1_0 : l1_0.length ≤ c1_0) (h : version_ranked_against.f l0_0 a0_1 l1_0 a1_1 = some r) :
    Calls Tryd.prog 21 #[.agg #[.slice A0_0 l0_0.length c0_0, .string a0_1], .agg #[.slice A1_0 l1_0.length c1_0, .string a1_1]] w fun e w' => e = .returned (.int .i64 r) ∧ Below w.heap.size w w' := by
  unfold version_ranked_against.f at h
  split at h
  case isFalse => cases h
  rename_i hf
  obtain rfl := Option.some.inj h
  unfold fits at hf
  simp only [Bool.and_eq_true, decide_eq_true_eq] at hf
  exact against_calls _ _ _ _ _ _ _ _ w hr0_0 hr1_0 hf.1.1.1 hf.1.1.2 hf.1.2 hf.2
end Go.Proofs.YtbikimkmkchkhaaDoor.PAll
end
section
/- The contracts of the library functions that are used here, laid at this translation (written by the shelf's tools). -/
namespace Go.Proofs
open Go.Shelf
def Tryd.lays156_ren : Go.Shelf.Ren := ⟨fun | 156 => 26 | 165 => 39 | 166 => 40 | 169 => 41 | 240 => 52 | 241 => 53 | 276 => 76 | 277 => 77 | n => n, fun | 31 => 48 | 9 => 9 | 3 => 3 | 4 => 4 | 0 => 0 | 20 => 20 | 72 => 68 | 76 => 56 | 70 => 65 | 37 => 66 | 75 => 55 | 127 => 77 | 164 => 100 | 5 => 5 | 80 => 70 | n => n, fun | n => n⟩
theorem Tryd.lays156 : Go.Proofs.Lays.n156 Tryd.prog Tryd.lays156_ren := {
  mixed := by kernel_rfl
  f156 := Tryd.func26.trans (congrArg some (by kernel_rfl))
  f165 := Tryd.func39.trans (congrArg some (by kernel_rfl))
  f166 := Tryd.func40.trans (congrArg some (by kernel_rfl))
  f169 := Tryd.func41.trans (congrArg some (by kernel_rfl))
  f240 := Tryd.func52.trans (congrArg some (by kernel_rfl))
  f241 := Tryd.func53.trans (congrArg some (by kernel_rfl))
  f276 := Tryd.func76.trans (congrArg some (by kernel_rfl))
  f277 := Tryd.func77.trans (congrArg some (by kernel_rfl))
  t0 := Tryd.underlying0
  a0 := Tryd.isAgg0
  z0 := Tryd.sizeOf0
  v0 := Tryd.zeroValue0
  t3 := Tryd.underlying3
  a3 := Tryd.isAgg3
  z3 := Tryd.sizeOf3
  v3 := Tryd.zeroValue3
  t4 := Tryd.underlying4
  a4 := Tryd.isAgg4
  z4 := Tryd.sizeOf4
  v4 := Tryd.zeroValue4
  t9 := Tryd.underlying9
  a9 := Tryd.isAgg9
  z9 := Tryd.sizeOf9
  v9 := Tryd.zeroValue9
  t20 := Tryd.underlying20
  a20 := Tryd.isAgg20
  z20 := Tryd.sizeOf20
  v20 := Tryd.zeroValue20
  t31 := Tryd.underlying48
  a31 := Tryd.isAgg48
  z31 := Tryd.sizeOf48
  v31 := Tryd.zeroValue48
  t37 := Tryd.underlying66
  a37 := Tryd.isAgg66
  z37 := Tryd.sizeOf66
  v37 := Tryd.zeroValue66
  t70 := Tryd.underlying65
  a70 := Tryd.isAgg65
  z70 := Tryd.sizeOf65
  v70 := Tryd.zeroValue65
  t72 := Tryd.underlying68
  a72 := Tryd.isAgg68
  z72 := Tryd.sizeOf68
  v72 := Tryd.zeroValue68
  t75 := Tryd.underlying55
  a75 := Tryd.isAgg55
  z75 := Tryd.sizeOf55
  v75 := Tryd.zeroValue55
  t76 := Tryd.underlying56
  a76 := Tryd.isAgg56
  z76 := Tryd.sizeOf56
  v76 := Tryd.zeroValue56
  t127 := Tryd.underlying77
  a127 := Tryd.isAgg77
  z127 := Tryd.sizeOf77
  v127 := Tryd.zeroValue77
  t164 := Tryd.underlying100
  a164 := Tryd.isAgg100
  z164 := Tryd.sizeOf100
  v164 := Tryd.zeroValue100 }
theorem Tryd.Builder_Extra_156 : Builder.Extra Tryd.prog Tryd.lays156_ren := {
  sizeBuilder := by kernel_rfl
  liesBuilder := by kernel_rfl
  t5 := Tryd.underlying5
  a5 := Tryd.isAgg5
  z5 := Tryd.sizeOf5
  v5 := Tryd.zeroValue5
  infoByte := by kernel_rfl
  cellsByte := by kernel_rfl
  sizeByte := by kernel_rfl
  neB5 := by decide }
open Go.RowKit in
theorem Tryd.strings_Join_none (a : Option Addr) (c : Nat) (sep : ByteArray) (w : World) :
    Calls Tryd.prog 26 #[.slice a 0 c, .string sep] w fun e w' => e = .returned (.string ⟨#[]⟩) ∧ w' = w := Any.strings_Join_none Tryd.lays156 Tryd.Builder_Extra_156 a c sep w
open Go.RowKit in
theorem Tryd.strings_Join (bk o c : Nat) (xs : List ByteArray) (sep : ByteArray) (w : World) (hcells : ∀ (j : Nat) x, xs[j]? = some x → w.cell? ⟨bk, o + j, none⟩ = some (.string x)) (hbk : bk < w.heap.size) (hN : xs.length ≤ 140737488355328) (hcap : xs.length ≤ c) (hlen : (Lib.join (xs.map (·.data.toList)) sep.data.toList).length ≤ 140737488355328) :
    Calls Tryd.prog 26 #[.slice (some ⟨bk, o, none⟩) xs.length c, .string sep] w fun e w' => e = .returned (.string ⟨(Lib.join (xs.map (·.data.toList)) sep.data.toList).toArray⟩) ∧ Below w.heap.size w w' := Any.strings_Join Tryd.lays156 Tryd.Builder_Extra_156 bk o c xs sep w hcells hbk hN hcap hlen
def Tryd.lays160_ren : Go.Shelf.Ren := ⟨fun | 160 => 50 | 232 => 66 | 231 => 65 | 227 => 67 | 234 => 69 | 233 => 68 | 236 => 71 | 235 => 70 | 228 => 89 | 271 => 91 | 151 => 90 | 197 => 83 | 120 => 104 | 152 => 103 | 260 => 99 | 137 => 107 | 119 => 108 | 224 => 80 | 225 => 79 | 217 => 78 | 266 => 97 | n => n, fun | 9 => 9 | 4 => 4 | 3 => 3 | 5 => 5 | 117 => 90 | 116 => 89 | 0 => 0 | 124 => 93 | 21 => 21 | 105 => 106 | 46 => 104 | 119 => 129 | 139 => 132 | 138 => 131 | n => n, fun | 3 => 4 | 4 => 5 | n => n⟩
theorem Tryd.lays160 : Go.Proofs.Lays.n160 Tryd.prog Tryd.lays160_ren := {
  mixed := by kernel_rfl
  f119 := Tryd.func108.trans (congrArg some (by kernel_rfl))
  f120 := Tryd.func104.trans (congrArg some (by kernel_rfl))
  f137 := Tryd.func107.trans (congrArg some (by kernel_rfl))
  f151 := Tryd.func90.trans (congrArg some (by kernel_rfl))
  f152 := Tryd.func103.trans (congrArg some (by kernel_rfl))
  f160 := Tryd.func50.trans (congrArg some (by kernel_rfl))
  f197 := Tryd.func83.trans (congrArg some (by kernel_rfl))
  f217 := Tryd.func78.trans (congrArg some (by kernel_rfl))
  f224 := Tryd.func80.trans (congrArg some (by kernel_rfl))
  f225 := Tryd.func79.trans (congrArg some (by kernel_rfl))
  f227 := Tryd.func67.trans (congrArg some (by kernel_rfl))
  f228 := Tryd.func89.trans (congrArg some (by kernel_rfl))
  f231 := Tryd.func65.trans (congrArg some (by kernel_rfl))
  f232 := Tryd.func66.trans (congrArg some (by kernel_rfl))
  f233 := Tryd.func68.trans (congrArg some (by kernel_rfl))
  f234 := Tryd.func69.trans (congrArg some (by kernel_rfl))
  f235 := Tryd.func70.trans (congrArg some (by kernel_rfl))
  f236 := Tryd.func71.trans (congrArg some (by kernel_rfl))
  f260 := Tryd.func99.trans (congrArg some (by kernel_rfl))
  f266 := Tryd.func97.trans (congrArg some (by kernel_rfl))
  f271 := Tryd.func91.trans (congrArg some (by kernel_rfl))
  t0 := Tryd.underlying0
  a0 := Tryd.isAgg0
  z0 := Tryd.sizeOf0
  v0 := Tryd.zeroValue0
  t3 := Tryd.underlying3
  a3 := Tryd.isAgg3
  z3 := Tryd.sizeOf3
  v3 := Tryd.zeroValue3
  t4 := Tryd.underlying4
  a4 := Tryd.isAgg4
  z4 := Tryd.sizeOf4
  v4 := Tryd.zeroValue4
  t5 := Tryd.underlying5
  a5 := Tryd.isAgg5
  z5 := Tryd.sizeOf5
  v5 := Tryd.zeroValue5
  t9 := Tryd.underlying9
  a9 := Tryd.isAgg9
  z9 := Tryd.sizeOf9
  v9 := Tryd.zeroValue9
  t21 := Tryd.underlying21
  a21 := Tryd.isAgg21
  z21 := Tryd.sizeOf21
  v21 := Tryd.zeroValue21
  t46 := Tryd.underlying104
  a46 := Tryd.isAgg104
  z46 := Tryd.sizeOf104
  v46 := Tryd.zeroValue104
  t105 := Tryd.underlying106
  a105 := Tryd.isAgg106
  z105 := Tryd.sizeOf106
  v105 := Tryd.zeroValue106
  t116 := Tryd.underlying89
  a116 := Tryd.isAgg89
  z116 := Tryd.sizeOf89
  t117 := Tryd.underlying90
  a117 := Tryd.isAgg90
  z117 := Tryd.sizeOf90
  v117 := Tryd.zeroValue90
  t119 := Tryd.underlying129
  a119 := Tryd.isAgg129
  z119 := Tryd.sizeOf129
  t124 := Tryd.underlying93
  a124 := Tryd.isAgg93
  z124 := Tryd.sizeOf93
  v124 := Tryd.zeroValue93
  t138 := Tryd.underlying131
  a138 := Tryd.isAgg131
  z138 := Tryd.sizeOf131
  v138 := Tryd.zeroValue131
  t139 := Tryd.underlying132
  a139 := Tryd.isAgg132
  z139 := Tryd.sizeOf132
  v139 := Tryd.zeroValue132
  g3 := by kernel_rfl
  g4 := by kernel_rfl }
def Tryd.laysM171_ren : Go.Shelf.Ren := ⟨fun | 171 => 25 | 243 => 38 | 246 => 51 | 283 => 72 | 284 => 73 | 285 => 74 | 286 => 75 | 129 => 93 | 317 => 92 | 318 => 94 | 319 => 95 | 320 => 96 | 337 => 105 | 338 => 106 | n => n, fun | 3 => 3 | 9 => 9 | 2 => 2 | 4 => 4 | 171 => 94 | 0 => 0 | 53 => 95 | 37 => 66 | 5 => 5 | 173 => 98 | 212 => 117 | 51 => 118 | 20 => 20 | 213 => 119 | 46 => 104 | 232 => 134 | 233 => 135 | n => n, fun | 17 => 3 | 18 => 6 | 19 => 7 | n => n⟩
theorem Tryd.laysM171 : Go.Proofs.LaysM.n171 Tryd.prog Tryd.laysM171_ren := {
  mixed := by kernel_rfl
  f129 := Tryd.func93.trans (congrArg some (by kernel_rfl))
  f171 := Tryd.func25.trans (congrArg some (by kernel_rfl))
  f243 := Tryd.func38.trans (congrArg some (by kernel_rfl))
  f246 := Tryd.func51.trans (congrArg some (by kernel_rfl))
  f283 := Tryd.func72.trans (congrArg some (by kernel_rfl))
  f284 := Tryd.func73.trans (congrArg some (by kernel_rfl))
  f285 := Tryd.func74.trans (congrArg some (by kernel_rfl))
  f286 := Tryd.func75.trans (congrArg some (by kernel_rfl))
  f317 := Tryd.func92.trans (congrArg some (by kernel_rfl))
  f318 := Tryd.func94.trans (congrArg some (by kernel_rfl))
  f319 := Tryd.func95.trans (congrArg some (by kernel_rfl))
  f320 := Tryd.func96.trans (congrArg some (by kernel_rfl))
  f337 := Tryd.func105.trans (congrArg some (by kernel_rfl))
  f338 := Tryd.func106.trans (congrArg some (by kernel_rfl))
  t0 := Tryd.underlying0
  a0 := Tryd.isAgg0
  z0 := Tryd.sizeOf0
  v0 := Tryd.zeroValue0
  t2 := Tryd.underlying2
  a2 := Tryd.isAgg2
  z2 := Tryd.sizeOf2
  v2 := Tryd.zeroValue2
  t3 := Tryd.underlying3
  a3 := Tryd.isAgg3
  z3 := Tryd.sizeOf3
  v3 := Tryd.zeroValue3
  t4 := Tryd.underlying4
  a4 := Tryd.isAgg4
  z4 := Tryd.sizeOf4
  v4 := Tryd.zeroValue4
  t5 := Tryd.underlying5
  a5 := Tryd.isAgg5
  z5 := Tryd.sizeOf5
  v5 := Tryd.zeroValue5
  t9 := Tryd.underlying9
  a9 := Tryd.isAgg9
  z9 := Tryd.sizeOf9
  v9 := Tryd.zeroValue9
  t20 := Tryd.underlying20
  a20 := Tryd.isAgg20
  z20 := Tryd.sizeOf20
  v20 := Tryd.zeroValue20
  t37 := Tryd.underlying66
  a37 := Tryd.isAgg66
  z37 := Tryd.sizeOf66
  v37 := Tryd.zeroValue66
  t46 := Tryd.underlying104
  a46 := Tryd.isAgg104
  z46 := Tryd.sizeOf104
  v46 := Tryd.zeroValue104
  t51 := Tryd.underlying118
  a51 := Tryd.isAgg118
  z51 := Tryd.sizeOf118
  v51 := Tryd.zeroValue118
  t53 := Tryd.underlying95
  a53 := Tryd.isAgg95
  z53 := Tryd.sizeOf95
  v53 := Tryd.zeroValue95
  t171 := Tryd.underlying94
  a171 := Tryd.isAgg94
  z171 := Tryd.sizeOf94
  v171 := Tryd.zeroValue94
  t173 := Tryd.underlying98
  a173 := Tryd.isAgg98
  z173 := Tryd.sizeOf98
  v173 := Tryd.zeroValue98
  t212 := Tryd.underlying117
  a212 := Tryd.isAgg117
  z212 := Tryd.sizeOf117
  v212 := Tryd.zeroValue117
  t213 := Tryd.underlying119
  a213 := Tryd.isAgg119
  z213 := Tryd.sizeOf119
  t232 := Tryd.underlying134
  a232 := Tryd.isAgg134
  z232 := Tryd.sizeOf134
  v232 := Tryd.zeroValue134
  t233 := Tryd.underlying135
  a233 := Tryd.isAgg135
  z233 := Tryd.sizeOf135
  v233 := Tryd.zeroValue135
  g17 := by kernel_rfl
  g18 := by kernel_rfl
  g19 := by kernel_rfl
  i0 := by kernel_rfl
  i2 := by kernel_rfl
  i3 := by kernel_rfl
  i4 := by kernel_rfl
  i5 := by kernel_rfl
  i9 := by kernel_rfl
  i20 := by kernel_rfl
  i37 := by kernel_rfl
  i46 := by kernel_rfl
  i51 := by kernel_rfl
  i53 := by kernel_rfl
  i171 := by kernel_rfl
  i173 := by kernel_rfl
  i212 := by kernel_rfl
  i232 := by kernel_rfl
  i233 := by kernel_rfl
  m17 := by kernel_rfl
  m18 := by kernel_rfl
  m19 := by kernel_rfl }
open Go.RowKit Go.Sort Go.Lib in
theorem Tryd.strconv_Itoa (n : Int) (h0 : -9223372036854775808 ≤ n) (h1 : n ≤ 9223372036854775807) (w : World) (htab : Lib.TabIs Tryd.prog w "internal/strconv.uint64pow10" .u64 Lib.pow10Tab) :
    Calls Tryd.prog 25 #[.int .i64 n] w fun e w' => e = .returned (.string ⟨(Lib.itoa n).toArray⟩) ∧ ∃ k os, w' = grow (w.drewN k) os := Any.strconv_Itoa Tryd.laysM171 n h0 h1 w htab
def Tryd.laysC172_ren : Go.Shelf.Ren := ⟨fun | 172 => 29 | 244 => 44 | 245 => 45 | 247 => 58 | 279 => 59 | 280 => 60 | 281 => 61 | 282 => 62 | 287 => 85 | 316 => 86 | 171 => 25 | 205 => 87 | 321 => 100 | 322 => 101 | 243 => 38 | 246 => 51 | 283 => 72 | 284 => 73 | 285 => 74 | 286 => 75 | 129 => 93 | 317 => 92 | 318 => 94 | 319 => 95 | 320 => 96 | 337 => 105 | 338 => 106 | n => n, fun | 9 => 9 | 3 => 3 | 75 => 55 | 76 => 56 | 4 => 4 | 5 => 5 | 167 => 79 | 37 => 66 | 0 => 0 | 85 => 80 | 2 => 2 | 168 => 82 | 53 => 95 | 175 => 108 | 46 => 104 | 210 => 112 | 127 => 77 | 145 => 126 | 143 => 124 | 21 => 21 | 171 => 94 | 173 => 98 | 212 => 117 | 51 => 118 | 20 => 20 | 213 => 119 | 232 => 134 | 233 => 135 | 80 => 70 | n => n, fun | 15 => 1 | 16 => 2 | 17 => 3 | 18 => 6 | 19 => 7 | n => n⟩
theorem Tryd.laysC172 : Go.Proofs.LaysC.n172 Tryd.prog Tryd.laysC172_ren := {
  mixed := by kernel_rfl
  f129 := Tryd.func93.trans (congrArg some (by kernel_rfl))
  f171 := Tryd.func25.trans (congrArg some (by kernel_rfl))
  f172 := Tryd.func29.trans (congrArg some (by kernel_rfl))
  f205 := Tryd.func87.trans (congrArg some (by kernel_rfl))
  f243 := Tryd.func38.trans (congrArg some (by kernel_rfl))
  f244 := Tryd.func44.trans (congrArg some (by kernel_rfl))
  f245 := Tryd.func45.trans (congrArg some (by kernel_rfl))
  f246 := Tryd.func51.trans (congrArg some (by kernel_rfl))
  f247 := Tryd.func58.trans (congrArg some (by kernel_rfl))
  f279 := Tryd.func59.trans (congrArg some (by kernel_rfl))
  f280 := Tryd.func60.trans (congrArg some (by kernel_rfl))
  f281 := Tryd.func61.trans (congrArg some (by kernel_rfl))
  f282 := Tryd.func62.trans (congrArg some (by kernel_rfl))
  f283 := Tryd.func72.trans (congrArg some (by kernel_rfl))
  f284 := Tryd.func73.trans (congrArg some (by kernel_rfl))
  f285 := Tryd.func74.trans (congrArg some (by kernel_rfl))
  f286 := Tryd.func75.trans (congrArg some (by kernel_rfl))
  f287 := Tryd.func85.trans (congrArg some (by kernel_rfl))
  f316 := Tryd.func86.trans (congrArg some (by kernel_rfl))
  f317 := Tryd.func92.trans (congrArg some (by kernel_rfl))
  f318 := Tryd.func94.trans (congrArg some (by kernel_rfl))
  f319 := Tryd.func95.trans (congrArg some (by kernel_rfl))
  f320 := Tryd.func96.trans (congrArg some (by kernel_rfl))
  f321 := Tryd.func100.trans (congrArg some (by kernel_rfl))
  f322 := Tryd.func101.trans (congrArg some (by kernel_rfl))
  f337 := Tryd.func105.trans (congrArg some (by kernel_rfl))
  f338 := Tryd.func106.trans (congrArg some (by kernel_rfl))
  t0 := Tryd.underlying0
  a0 := Tryd.isAgg0
  z0 := Tryd.sizeOf0
  v0 := Tryd.zeroValue0
  t2 := Tryd.underlying2
  a2 := Tryd.isAgg2
  z2 := Tryd.sizeOf2
  v2 := Tryd.zeroValue2
  t3 := Tryd.underlying3
  a3 := Tryd.isAgg3
  z3 := Tryd.sizeOf3
  v3 := Tryd.zeroValue3
  t4 := Tryd.underlying4
  a4 := Tryd.isAgg4
  z4 := Tryd.sizeOf4
  v4 := Tryd.zeroValue4
  t5 := Tryd.underlying5
  a5 := Tryd.isAgg5
  z5 := Tryd.sizeOf5
  v5 := Tryd.zeroValue5
  t9 := Tryd.underlying9
  a9 := Tryd.isAgg9
  z9 := Tryd.sizeOf9
  v9 := Tryd.zeroValue9
  t20 := Tryd.underlying20
  a20 := Tryd.isAgg20
  z20 := Tryd.sizeOf20
  v20 := Tryd.zeroValue20
  t21 := Tryd.underlying21
  a21 := Tryd.isAgg21
  z21 := Tryd.sizeOf21
  v21 := Tryd.zeroValue21
  t37 := Tryd.underlying66
  a37 := Tryd.isAgg66
  z37 := Tryd.sizeOf66
  v37 := Tryd.zeroValue66
  t46 := Tryd.underlying104
  a46 := Tryd.isAgg104
  z46 := Tryd.sizeOf104
  v46 := Tryd.zeroValue104
  t51 := Tryd.underlying118
  a51 := Tryd.isAgg118
  z51 := Tryd.sizeOf118
  v51 := Tryd.zeroValue118
  t53 := Tryd.underlying95
  a53 := Tryd.isAgg95
  z53 := Tryd.sizeOf95
  v53 := Tryd.zeroValue95
  t75 := Tryd.underlying55
  a75 := Tryd.isAgg55
  z75 := Tryd.sizeOf55
  v75 := Tryd.zeroValue55
  t76 := Tryd.underlying56
  a76 := Tryd.isAgg56
  z76 := Tryd.sizeOf56
  v76 := Tryd.zeroValue56
  t85 := Tryd.underlying80
  a85 := Tryd.isAgg80
  z85 := Tryd.sizeOf80
  v85 := Tryd.zeroValue80
  t127 := Tryd.underlying77
  a127 := Tryd.isAgg77
  z127 := Tryd.sizeOf77
  v127 := Tryd.zeroValue77
  t143 := Tryd.underlying124
  a143 := Tryd.isAgg124
  z143 := Tryd.sizeOf124
  v143 := Tryd.zeroValue124
  t145 := Tryd.underlying126
  a145 := Tryd.isAgg126
  z145 := Tryd.sizeOf126
  v145 := Tryd.zeroValue126
  t167 := Tryd.underlying79
  a167 := Tryd.isAgg79
  z167 := Tryd.sizeOf79
  v167 := Tryd.zeroValue79
  t168 := Tryd.underlying82
  a168 := Tryd.isAgg82
  z168 := Tryd.sizeOf82
  v168 := Tryd.zeroValue82
  t171 := Tryd.underlying94
  a171 := Tryd.isAgg94
  z171 := Tryd.sizeOf94
  v171 := Tryd.zeroValue94
  t173 := Tryd.underlying98
  a173 := Tryd.isAgg98
  z173 := Tryd.sizeOf98
  v173 := Tryd.zeroValue98
  t175 := Tryd.underlying108
  a175 := Tryd.isAgg108
  z175 := Tryd.sizeOf108
  v175 := Tryd.zeroValue108
  t210 := Tryd.underlying112
  a210 := Tryd.isAgg112
  z210 := Tryd.sizeOf112
  v210 := Tryd.zeroValue112
  t212 := Tryd.underlying117
  a212 := Tryd.isAgg117
  z212 := Tryd.sizeOf117
  v212 := Tryd.zeroValue117
  t213 := Tryd.underlying119
  a213 := Tryd.isAgg119
  z213 := Tryd.sizeOf119
  t232 := Tryd.underlying134
  a232 := Tryd.isAgg134
  z232 := Tryd.sizeOf134
  v232 := Tryd.zeroValue134
  t233 := Tryd.underlying135
  a233 := Tryd.isAgg135
  z233 := Tryd.sizeOf135
  v233 := Tryd.zeroValue135
  g15 := by kernel_rfl
  g16 := by kernel_rfl
  g17 := by kernel_rfl
  g18 := by kernel_rfl
  g19 := by kernel_rfl
  t80 := Tryd.underlying70
  a80 := Tryd.isAgg70
  z80 := Tryd.sizeOf70
  v80 := Tryd.zeroValue70
  i0 := by kernel_rfl
  i2 := by kernel_rfl
  i3 := by kernel_rfl
  i4 := by kernel_rfl
  i5 := by kernel_rfl
  i9 := by kernel_rfl
  i20 := by kernel_rfl
  i21 := by kernel_rfl
  i37 := by kernel_rfl
  i46 := by kernel_rfl
  i51 := by kernel_rfl
  i53 := by kernel_rfl
  i75 := by kernel_rfl
  i76 := by kernel_rfl
  i80 := by kernel_rfl
  i85 := by kernel_rfl
  i127 := by kernel_rfl
  i143 := by kernel_rfl
  i145 := by kernel_rfl
  i167 := by kernel_rfl
  i168 := by kernel_rfl
  i171 := by kernel_rfl
  i173 := by kernel_rfl
  i175 := by kernel_rfl
  i210 := by kernel_rfl
  i212 := by kernel_rfl
  i232 := by kernel_rfl
  i233 := by kernel_rfl
  m15 := by kernel_rfl
  m16 := by kernel_rfl
  m17 := by kernel_rfl
  m18 := by kernel_rfl
  m19 := by kernel_rfl
  c0 := by kernel_rfl
  c2 := by kernel_rfl
  c3 := by kernel_rfl
  c4 := by kernel_rfl
  c5 := by kernel_rfl
  c9 := by kernel_rfl
  c20 := by kernel_rfl
  c21 := by kernel_rfl
  c37 := by kernel_rfl
  c46 := by kernel_rfl
  c51 := by kernel_rfl
  c53 := by kernel_rfl
  c75 := by kernel_rfl
  c76 := by kernel_rfl
  c80 := by kernel_rfl
  c85 := by kernel_rfl
  c127 := by kernel_rfl
  c143 := by kernel_rfl
  c145 := by kernel_rfl
  c167 := by kernel_rfl
  c168 := by kernel_rfl
  c171 := by kernel_rfl
  c173 := by kernel_rfl
  c175 := by kernel_rfl
  c210 := by kernel_rfl
  c212 := by kernel_rfl
  c213 := by kernel_rfl
  c232 := by kernel_rfl
  c233 := by kernel_rfl }
open Go.RowKit in
theorem Tryd.strconv_Atoi_ok (s : ByteArray) (hmax : s.size ≤ 9223372036854775806) (v : Int) (h : Lib.atoiAll s.data.toList = .ok v) (w : World) :
    Calls Tryd.prog 29 #[.string s] w fun e w' => e = .returned (.tuple #[.int .i64 v, .nilIface]) ∧ (w' = w ∨ ∃ t, w' = Lib.bytesWorld w 5 t) := Any.strconv_Atoi_ok Tryd.laysC172 s hmax v h w
open Go.RowKit in
theorem Tryd.strconv_Atoi_syntax_var (s : ByteArray) (hlim : s.size ≤ 281474976710656) (h : Lib.atoiAll s.data.toList = Lib.atoiAll []) (tp : TypeId) (p : Value) (w : World) (hvar : w.var? Tryd.prog "strconv.ErrSyntax" = some #[.iface tp p]) :
    Calls Tryd.prog 29 #[.string s] w fun e w' => ∃ N, e = .returned (.tuple #[.int .i64 0, .iface 82 (.pointer (some ⟨N, 0, none⟩))]) ∧ w.heap.size ≤ N ∧ w'.heap[N]? = some (.cells #[.string ⟨#[65, 116, 111, 105]⟩, .string s, .iface tp p] 112 (0, 0)) ∧ Below w.heap.size w w' := Any.strconv_Atoi_syntax_var Tryd.laysC172 s hlim h tp p w hvar
open Go.RowKit in
theorem Tryd.strconv_Atoi_range_var (s : ByteArray) (hlim : s.size ≤ 281474976710656) (h : Lib.atoiAll s.data.toList = .range) (tp : TypeId) (p : Value) (w : World) (hvar : w.var? Tryd.prog "strconv.ErrRange" = some #[.iface tp p]) :
    Calls Tryd.prog 29 #[.string s] w fun e w' => ∃ N, e = .returned (.tuple #[.int .i64 (Lib.atoiSat s.data.toList), .iface 82 (.pointer (some ⟨N, 0, none⟩))]) ∧ w.heap.size ≤ N ∧ w'.heap[N]? = some (.cells #[.string ⟨#[65, 116, 111, 105]⟩, .string s, .iface tp p] 112 (0, 0)) ∧ Below w.heap.size w w' := Any.strconv_Atoi_range_var Tryd.laysC172 s hlim h tp p w hvar
def Tryd.lays145_ren : Go.Shelf.Ren := ⟨fun | 145 => 27 | 220 => 42 | 219 => 54 | 217 => 78 | 225 => 79 | 224 => 80 | 267 => 81 | 266 => 97 | 314 => 98 | n => n, fun | 9 => 9 | 4 => 4 | 59 => 51 | 3 => 3 | 5 => 5 | 46 => 104 | 146 => 121 | 51 => 118 | n => n, fun | 1 => 0 | n => n⟩
theorem Tryd.lays145 : Go.Proofs.Lays.n145 Tryd.prog Tryd.lays145_ren := {
  mixed := by kernel_rfl
  f145 := Tryd.func27.trans (congrArg some (by kernel_rfl))
  f217 := Tryd.func78.trans (congrArg some (by kernel_rfl))
  f219 := Tryd.func54.trans (congrArg some (by kernel_rfl))
  f220 := Tryd.func42.trans (congrArg some (by kernel_rfl))
  f224 := Tryd.func80.trans (congrArg some (by kernel_rfl))
  f225 := Tryd.func79.trans (congrArg some (by kernel_rfl))
  f266 := Tryd.func97.trans (congrArg some (by kernel_rfl))
  f267 := Tryd.func81.trans (congrArg some (by kernel_rfl))
  f314 := Tryd.func98.trans (congrArg some (by kernel_rfl))
  t3 := Tryd.underlying3
  a3 := Tryd.isAgg3
  z3 := Tryd.sizeOf3
  v3 := Tryd.zeroValue3
  t4 := Tryd.underlying4
  a4 := Tryd.isAgg4
  z4 := Tryd.sizeOf4
  v4 := Tryd.zeroValue4
  t5 := Tryd.underlying5
  a5 := Tryd.isAgg5
  z5 := Tryd.sizeOf5
  v5 := Tryd.zeroValue5
  t9 := Tryd.underlying9
  a9 := Tryd.isAgg9
  z9 := Tryd.sizeOf9
  v9 := Tryd.zeroValue9
  t46 := Tryd.underlying104
  a46 := Tryd.isAgg104
  z46 := Tryd.sizeOf104
  v46 := Tryd.zeroValue104
  t51 := Tryd.underlying118
  a51 := Tryd.isAgg118
  z51 := Tryd.sizeOf118
  v51 := Tryd.zeroValue118
  t59 := Tryd.underlying51
  a59 := Tryd.isAgg51
  z59 := Tryd.sizeOf51
  v59 := Tryd.zeroValue51
  t146 := Tryd.underlying121
  a146 := Tryd.isAgg121
  z146 := Tryd.sizeOf121
  v146 := Tryd.zeroValue121
  g1 := by kernel_rfl }
open Go.RowKit Go.Lib in
theorem Tryd.strings_Cut (s sep : ByteArray) (m : Int) (w : World) (hs : s.size < 4294967281) (hm : w.cell? ⟨0, 0, none⟩ = some (.int .i64 m)) :
    Calls Tryd.prog 27 #[.string s, .string sep] w fun e w' => e = .returned (.tuple #[.string ⟨(Lib.cut s.data.toList sep.data.toList).1.toArray⟩, .string ⟨(Lib.cut s.data.toList sep.data.toList).2.1.toArray⟩, .bool (Lib.cut s.data.toList sep.data.toList).2.2]) ∧ ∃ n, w' = w.drewN n := Any.strings_Cut Tryd.lays145 s sep m w hs hm
def Tryd.lays146_ren : Go.Shelf.Ren := ⟨fun | 146 => 28 | 221 => 43 | 268 => 55 | 138 => 56 | 143 => 57 | 195 => 82 | 197 => 83 | 218 => 84 | 219 => 54 | 260 => 99 | 217 => 78 | 225 => 79 | 224 => 80 | 267 => 81 | 266 => 97 | 314 => 98 | n => n, fun | 9 => 9 | 31 => 48 | 3 => 3 | 4 => 4 | 0 => 0 | 105 => 106 | 21 => 21 | 5 => 5 | 46 => 104 | 119 => 129 | 139 => 132 | 138 => 131 | 146 => 121 | 51 => 118 | n => n, fun | 1 => 0 | 3 => 4 | 4 => 5 | n => n⟩
theorem Tryd.lays146 : Go.Proofs.Lays.n146 Tryd.prog Tryd.lays146_ren := {
  mixed := by kernel_rfl
  f138 := Tryd.func56.trans (congrArg some (by kernel_rfl))
  f143 := Tryd.func57.trans (congrArg some (by kernel_rfl))
  f146 := Tryd.func28.trans (congrArg some (by kernel_rfl))
  f195 := Tryd.func82.trans (congrArg some (by kernel_rfl))
  f197 := Tryd.func83.trans (congrArg some (by kernel_rfl))
  f217 := Tryd.func78.trans (congrArg some (by kernel_rfl))
  f218 := Tryd.func84.trans (congrArg some (by kernel_rfl))
  f219 := Tryd.func54.trans (congrArg some (by kernel_rfl))
  f221 := Tryd.func43.trans (congrArg some (by kernel_rfl))
  f224 := Tryd.func80.trans (congrArg some (by kernel_rfl))
  f225 := Tryd.func79.trans (congrArg some (by kernel_rfl))
  f260 := Tryd.func99.trans (congrArg some (by kernel_rfl))
  f266 := Tryd.func97.trans (congrArg some (by kernel_rfl))
  f267 := Tryd.func81.trans (congrArg some (by kernel_rfl))
  f268 := Tryd.func55.trans (congrArg some (by kernel_rfl))
  f314 := Tryd.func98.trans (congrArg some (by kernel_rfl))
  t0 := Tryd.underlying0
  a0 := Tryd.isAgg0
  z0 := Tryd.sizeOf0
  v0 := Tryd.zeroValue0
  t3 := Tryd.underlying3
  a3 := Tryd.isAgg3
  z3 := Tryd.sizeOf3
  v3 := Tryd.zeroValue3
  t4 := Tryd.underlying4
  a4 := Tryd.isAgg4
  z4 := Tryd.sizeOf4
  v4 := Tryd.zeroValue4
  t5 := Tryd.underlying5
  a5 := Tryd.isAgg5
  z5 := Tryd.sizeOf5
  v5 := Tryd.zeroValue5
  t9 := Tryd.underlying9
  a9 := Tryd.isAgg9
  z9 := Tryd.sizeOf9
  v9 := Tryd.zeroValue9
  t21 := Tryd.underlying21
  a21 := Tryd.isAgg21
  z21 := Tryd.sizeOf21
  v21 := Tryd.zeroValue21
  t31 := Tryd.underlying48
  a31 := Tryd.isAgg48
  z31 := Tryd.sizeOf48
  v31 := Tryd.zeroValue48
  t46 := Tryd.underlying104
  a46 := Tryd.isAgg104
  z46 := Tryd.sizeOf104
  v46 := Tryd.zeroValue104
  t51 := Tryd.underlying118
  a51 := Tryd.isAgg118
  z51 := Tryd.sizeOf118
  v51 := Tryd.zeroValue118
  t105 := Tryd.underlying106
  a105 := Tryd.isAgg106
  z105 := Tryd.sizeOf106
  v105 := Tryd.zeroValue106
  t119 := Tryd.underlying129
  a119 := Tryd.isAgg129
  z119 := Tryd.sizeOf129
  t138 := Tryd.underlying131
  a138 := Tryd.isAgg131
  z138 := Tryd.sizeOf131
  v138 := Tryd.zeroValue131
  t139 := Tryd.underlying132
  a139 := Tryd.isAgg132
  z139 := Tryd.sizeOf132
  v139 := Tryd.zeroValue132
  t146 := Tryd.underlying121
  a146 := Tryd.isAgg121
  z146 := Tryd.sizeOf121
  v146 := Tryd.zeroValue121
  g1 := by kernel_rfl
  g3 := by kernel_rfl
  g4 := by kernel_rfl }
open Go.RowKit Go.Lib in
theorem Tryd.strings_Split (s sep : ByteArray) (m : Int) (w : World) (hs : s.size < 4294967281) (hm : w.cell? ⟨0, 0, none⟩ = some (.int .i64 m)) (h1 : 1 ≤ sep.size) :
    Calls Tryd.prog 28 #[.string s, .string sep] w fun e w' =>
      e = .returned (.slice (some ⟨w.heap.size, 0, none⟩) (Lib.countB s sep + 1) (Lib.countB s sep + 1)) ∧ w' = w.alloc (.cells ((Lib.splitB sep 0 (Lib.countB s sep) s).map Value.string).toArray 9) := Any.strings_Split Tryd.lays146 (by kernel_rfl) s sep m w hs hm h1
end Go.Proofs
end
section
/- version.Check: its closure, slices.ContainsFunc, tailed. -/
namespace Go.Proofs.YtbikimkmkchkhaaDoor.PAll
open Go.RowKit Go.Lib Go.Shelf Go.Proofs.YtbikimkmkchkhaaDoorW.PrintWords Go.Proofs.YtbikimkmkchkhaaDoorW.PrintLast Go.Proofs.YtbikimkmkchkhaaDoorW.PrintMore
attribute [local go_sem] Oper.semAt_some
set_option linter.unusedVariables false
set_option linter.unusedSimpArgs false

def oddB (x : Int) : Bool := decide (x < 0) || decide (999999 < x)
theorem odd_gives (x : Int) (W : World) : Calls Tryd.prog 35 #[.int .i64 x] W fun e w' => e = .returned (.bool (oddB x)) ∧ w' = W := by
  unfold oddB
  by_cases h : x < 0
  · have b : decide (x < 0) = true := decide_eq_true h
    rw [b]
    go_enter Tryd.func35, Tryd.ntmps35
    go_wp2
    go_ret
    exact ⟨rfl, rfl⟩
  · have b : decide (x < 0) = false := decide_eq_false h
    rw [b]
    go_enter Tryd.func35, Tryd.ntmps35
    go_wp2
    go_ret
    exact ⟨rfl, rfl⟩
/-- The first part that is out of range: where it stands, or -1. -/
def idxOdd (l : List Int) : Int := match l.findIdx? oddB with | some i => (i : Int) | none => -1
theorem rd_nat (l : List Int) (i : Nat) (h : i < l.length) : rd l (i : Int) = l[i] := by simp [rd, List.getD_eq_getElem?_getD, h]
theorem idxOdd_none {l : List Int} (h : ∀ j, j < l.length → oddB (rd l (j : Int)) = false) : idxOdd l = -1 := by
  unfold idxOdd
  have : l.findIdx? oddB = none := by
    rw [List.findIdx?_eq_none_iff]
    intro x hx
    obtain ⟨j, hj, rfl⟩ := List.getElem_of_mem hx
    have := h j hj
    rwa [rd_nat l j hj] at this
  rw [this]
theorem idxOdd_some {l : List Int} {k : Nat} (hk : k < l.length) (hp : oddB (rd l (k : Int)) = true) (h : ∀ j, j < k → oddB (rd l (j : Int)) = false) : idxOdd l = (k : Int) := by
  unfold idxOdd
  have : l.findIdx? oddB = some k := by
    rw [List.findIdx?_eq_some_iff_getElem]
    refine ⟨hk, by rwa [rd_nat l k hk] at hp, fun j hj => ?_⟩
    have := h j hj
    rw [rd_nat l j (by omega)] at this
    simpa using this
  rw [this]
set_option maxHeartbeats 2000000 in
theorem idxodd_calls (A : Option Addr) (c : Nat) (l : List Int) (w : World) (hC : Kd.C (Kd.int .i64) w A l.length l) :
    Calls Tryd.prog 49 #[.slice A l.length c, .func (.func 35) #[] #[]] w fun e w' => e = .returned (.int .i64 (idxOdd l)) ∧ w' = w := by
  have HC := Aside0.mk hC; clear hC
  have hl : l.length ≤ 9223372036854775807 := HC.out.2.1
  obtain ⟨R, hR⟩ : ∃ R, idxOdd l = R := ⟨_, rfl⟩
  rw [hR]
  have HR := Aside0.mk hR; clear hR
  go_enter Tryd.func49, Tryd.ntmps49
  go_wp2_with fail
  go_loop [8] (fun i => ∃ k : Nat, i = .int .i64 (k : Int) ∧ k ≤ l.length ∧ (∀ j, j < k → oddB (rd l (j : Int)) = false)) (fun i => l.length - (RowKit.intOf i).toNat)
  case atStart => exact ⟨0, rfl, by omega, fun j hj => absurd hj (by omega)⟩
  case round =>
    obtain ⟨k, rfl, hk, hF⟩ := hrel
    by_cases hlt : k < l.length
    · have t1 : decide ((k : Int) < (l.length : Int)) = true := decide_eq_true (by omega)
      have p0 : (0 : Int) ≤ (k : Int) := by omega
      have q0 : (k : Int) < (l.length : Int) := by omega
      obtain ⟨ad, rfl, hx⟩ := Kd.at_int HC.out (k : Int) p0 q0
      simp only [Int.toNat_natCast] at hx
      have hwk : wrap64 ((k : Int) + 1) = ((k + 1 : Nat) : Int) := by unfold wrap64; omega
      have hcl := odd_gives (rd l (k : Int)) w
      obtain ⟨x, hxx⟩ : ∃ x, x = rd l (k : Int) := ⟨_, rfl⟩
      rw [← hxx] at hx hcl
      cases hpk : oddB x with
      | true =>
        rw [hpk] at hcl
        have hv : idxOdd l = (k : Int) := idxOdd_some hlt (by rw [← hxx]; exact hpk) hF
        have HV := Aside0.mk (HR.out.symm.trans hv)
        clear hF hxx hv hpk
        go_wp2_with fail
        refine hcl.mono ?_
        rintro e w1 ⟨rfl, rfl⟩
        go_wp2
        go_ret
        exact ⟨by rw [HV.out]; rfl, rfl⟩
      | false =>
        rw [hpk] at hcl
        have hF' : ∀ j, j < k + 1 → oddB (rd l (j : Int)) = false := by
          intro j hj
          by_cases e : j = k
          · subst e; rw [← hxx]; exact hpk
          · exact hF j (by omega)
        have HF := Aside0.mk hF'
        clear hF hF' hxx hpk
        go_wp2_with fail
        refine hcl.mono ?_
        rintro e w1 ⟨rfl, rfl⟩
        go_wp2
        exact ⟨⟨k + 1, rfl, by omega, HF.out⟩, by simp [RowKit.intOf]; omega⟩
    · have hkl : k = l.length := by omega
      have t1 : decide ((k : Int) < (l.length : Int)) = false := decide_eq_false (by omega)
      have hv : idxOdd l = -1 := idxOdd_none (by rw [← hkl]; exact hF)
      have HV := Aside0.mk (HR.out.symm.trans hv)
      clear hv
      go_wp2
      go_ret
      exact ⟨by rw [HV.out]; rfl, rfl⟩
set_option maxHeartbeats 2000000 in
theorem contains_calls (A : Option Addr) (c : Nat) (l : List Int) (w : World) (hC : Kd.C (Kd.int .i64) w A l.length l) :
    Calls Tryd.prog 36 #[.slice A l.length c, .func (.func 35) #[] #[]] w fun e w' => e = .returned (.bool (decide (0 ≤ idxOdd l))) ∧ w' = w := by
  have hI := idxodd_calls A c l w hC
  clear hC
  obtain ⟨R, hR⟩ : ∃ R, idxOdd l = R := ⟨_, rfl⟩
  rw [hR] at hI ⊢
  clear hR
  go_enter Tryd.func36, Tryd.ntmps36
  go_wp2_with fail
  refine hI.mono ?_
  rintro e w1 ⟨rfl, rfl⟩
  go_wp2
  go_ret
  exact ⟨rfl, rfl⟩

def letters : ByteArray := ⟨#[97, 98, 99, 100, 101, 102, 103, 104, 105, 106, 107, 108, 109, 110, 111, 112, 113, 114, 115, 116, 117, 118, 119, 120, 121, 122, 48, 49, 50, 51, 52, 53, 54, 55, 56, 57]⟩
def trimmed (s : ByteArray) : ByteArray := ⟨(Lib.trimS s.data.toList letters.data.toList).toArray⟩
def tailB (s : ByteArray) : Bool := decide (s.size ≤ 8) && (trimmed s).toList.isEmpty
theorem trim_calls (s : ByteArray) (w : World) (hs : s.size ≤ 9223372036854775807) : Calls Tryd.prog 50 #[.string s, .string letters] w fun e w' => e = .returned (.string (trimmed s)) ∧ Below w.heap.size w w' :=
  Any.strings_Trim_laid Tryd.lays160 (by kernel_rfl) s letters w hs (by decide) (ascii_of_all (by decide))
set_option maxHeartbeats 2000000 in
theorem tailed_calls (s : ByteArray) (w : World) (hs : s.size ≤ 9223372036854775807) :
    Calls Tryd.prog 37 #[.string s] w fun e w' => e = .returned (.bool (tailB s)) ∧ Below w.heap.size w w' := by
  have ht := fun W => trim_calls s W hs
  unfold letters at ht
  unfold tailB
  generalize trimmed s = u at *
  by_cases h : s.size ≤ 8
  · have b : decide ((s.size : Int) ≤ 8) = true := decide_eq_true (by omega)
    rw [decide_eq_true h, Bool.true_and]
    clear h
    go_enter Tryd.func37, Tryd.ntmps37
    go_wp2_with fail
    refine (ht _).mono ?_
    rintro e w1 ⟨rfl, hb⟩
    go_wp2
    go_ret
    exact ⟨rfl, hb⟩
  · have b : decide ((s.size : Int) ≤ 8) = false := decide_eq_false (by omega)
    rw [decide_eq_false h, Bool.false_and]
    clear h
    go_enter Tryd.func37, Tryd.ntmps37
    go_wp2
    go_ret
    exact ⟨rfl, Below.refl _ _⟩
def badV (l : List Int) (t : ByteArray) : Bool := decide (l.length < 1) || decide (4 < l.length) || decide (0 ≤ idxOdd l) || !tailB t
def chkV (l : List Int) (t : ByteArray) : Int := if badV l t then 170 else 0
set_option maxHeartbeats 4000000 in
theorem check_calls (A : Option Addr) (c : Nat) (l : List Int) (t : ByteArray) (w : World) (hC : Kd.C (Kd.int .i64) w A l.length l) (hl : l.length ≤ 140737488355328) (hs : t.size ≤ 9223372036854775807) :
    Calls Tryd.prog 24 #[.agg #[.slice A l.length c, .string t]] w fun e w' => e = .returned (.int .i64 (chkV l t)) ∧ Below w.heap.size w w' := by
  have hB := (Below.refl w.heap.size w).alloc (Nat.le_refl _) (.cells #[.slice A l.length c, .string t] 24)
  have hcc := contains_calls A c l _ (Kd.C_below hC hB)
  have htt := fun W => tailed_calls t W hs
  have HB := Aside0.mk hB
  clear hB hC
  obtain ⟨r, hr⟩ : ∃ r, chkV l t = r := ⟨_, rfl⟩
  rw [hr]
  unfold chkV badV at hr
  by_cases h1 : l.length < 1
  · obtain rfl : (170 : Int) = r := by rw [← hr]; simp [h1]
    clear hr hcc htt
    have b : decide ((l.length : Int) < 1) = true := decide_eq_true (by omega)
    go_enter Tryd.func24, Tryd.ntmps24
    go_wp2
    go_ret
    exact ⟨rfl, HB.out⟩
  · have b : decide ((l.length : Int) < 1) = false := decide_eq_false (by omega)
    by_cases h2 : 4 < l.length
    · obtain rfl : (170 : Int) = r := by rw [← hr]; simp [h2]
      clear hr hcc htt
      have b2 : decide ((4 : Int) < (l.length : Int)) = true := decide_eq_true (by omega)
      go_enter Tryd.func24, Tryd.ntmps24
      go_wp2
      go_ret
      exact ⟨rfl, HB.out⟩
    · have b2 : decide ((4 : Int) < (l.length : Int)) = false := decide_eq_false (by omega)
      cases h3 : decide (0 ≤ idxOdd l) with
      | true =>
        obtain rfl : (170 : Int) = r := by rw [← hr, h3]; simp
        rw [h3] at hcc
        clear hr htt h1 h2 h3
        have HC := Aside0.mk hcc
        clear hcc
        go_enter Tryd.func24, Tryd.ntmps24
        go_wp2_with fail
        refine HC.out.mono ?_
        rintro e w1 ⟨rfl, rfl⟩
        go_wp2
        go_ret
        exact ⟨rfl, HB.out⟩
      | false =>
        rw [h3] at hcc hr
        have HC := Aside0.mk hcc
        clear hcc h3
        cases h4 : tailB t with
        | true =>
          obtain rfl : (0 : Int) = r := by rw [← hr, h4]; simp [h1, h2]
          rw [h4] at htt
          have HT := Aside0.mk htt
          clear hr htt h1 h2 h4
          go_enter Tryd.func24, Tryd.ntmps24
          go_wp2_with fail
          refine HC.out.mono ?_
          rintro e w1 ⟨rfl, rfl⟩
          go_wp2_with fail
          refine (HT.out _).mono ?_
          rintro e w1 ⟨rfl, hb⟩
          go_wp2
          go_ret
          exact ⟨rfl, HB.out.trans (hb.mono (by simp))⟩
        | false =>
          obtain rfl : (170 : Int) = r := by rw [← hr, h4]; simp
          rw [h4] at htt
          have HT := Aside0.mk htt
          clear hr htt h1 h2 h4
          go_enter Tryd.func24, Tryd.ntmps24
          go_wp2_with fail
          refine HC.out.mono ?_
          rintro e w1 ⟨rfl, rfl⟩
          go_wp2_with fail
          refine (HT.out _).mono ?_
          rintro e w1 ⟨rfl, hb⟩
          go_wp2
          go_ret
          exact ⟨rfl, HB.out.trans (hb.mono (by simp))⟩
def version_Check.f (l0_0 : List Int) (a0_1 : ByteArray) : Option Int := if decide (l0_0.length ≤ 140737488355328) && decide (a0_1.size ≤ 9223372036854775807) then some (chkV l0_0 a0_1) else none
theorem version_Check.calls (A0_0 : Option Addr) (c0_0 : Nat) (l0_0 : List Int) (a0_1 : ByteArray) (r : Int) (w : World) (hr0_0 : Kd.C (Kd.int .i64) w A0_0 l0_0.length l0_0) (hc0_0 : l0_0.length ≤ c0_0) (h : version_Check.f l0_0 a0_1 = some r) :
    Calls Tryd.prog 24 #[.agg #[.slice A0_0 l0_0.length c0_0, .string a0_1]] w fun e w' => e = .returned (.int .i64 r) ∧ Below w.heap.size w w' := by
  unfold version_Check.f at h
  split at h
  case isFalse => cases h
  rename_i hf
  obtain rfl := Option.some.inj h
  simp only [Bool.and_eq_true, decide_eq_true_eq] at hf
  exact check_calls _ _ _ _ w hr0_0 hf.1 hf.2
end Go.Proofs.YtbikimkmkchkhaaDoor.PAll
end
section
/- Blocks of the heap: what a new block, a store, an append do to them. -/
namespace Go.Proofs.YtbikimkmkchkhaaDoor
open Go.RowKit

theorem kb_cell_of {w : World} {g : Nat} {cs : Array Value} {t : TypeId} {fr : Nat × Nat} (h : w.heap[g]? = some (.cells cs t fr)) (i : Nat) : w.cell? ⟨g, i, none⟩ = cs[i]? := by simp [World.cell?, h]
theorem kb_free_of {w : World} {g : Nat} {cs : Array Value} {t : TypeId} (h : w.heap[g]? = some (.cells cs t (0, 0))) (i : Nat) : w.frozen? ⟨g, i, none⟩ = false := by simp [World.frozen?, h]
theorem kb_lt_of {w : World} {g : Nat} {o : Obj} (h : w.heap[g]? = some o) : g < w.heap.size := (Array.getElem?_eq_some_iff.1 h).1
theorem kb_new (w : World) (o : Obj) : (w.alloc o).heap[w.heap.size]? = some o := by
  show (w.heap.push o)[w.heap.size]? = some o
  simp
theorem kb_alloc {w : World} {g : Nat} {o : Obj} (h : w.heap[g]? = some o) (p : Obj) : (w.alloc p).heap[g]? = some o := (Below.heap_alloc w p g (kb_lt_of h)).trans h
theorem kb_drewN {w : World} {g : Nat} {o : Obj} (h : w.heap[g]? = some o) (n : Nat) : (w.drewN n).heap[g]? = some o := by
  have : (w.drewN n).heap = w.heap := by
    clear h
    induction n generalizing w with
    | zero => rfl
    | succ n ih => exact ih
  rw [this]; exact h
theorem kb_below {B : Nat} {w W : World} (hb : Below B w W) {g : Nat} {o : Obj} (hg : g < B) (h : w.heap[g]? = some o) : W.heap[g]? = some o := (hb.block g hg).trans h
theorem kb_belows {w W : World} (hb : Below w.heap.size w W) {g : Nat} {o : Obj} (h : w.heap[g]? = some o) : W.heap[g]? = some o := kb_below hb (kb_lt_of h) h
theorem kb_set {w : World} {g : Nat} {cs : Array Value} {t : TypeId} {fr : Nat × Nat} (h : w.heap[g]? = some (.cells cs t fr)) (i : Nat) (v : Value) : (w.setCell ⟨g, i, none⟩ v).heap[g]? = some (.cells (cs.setIfInBounds i v) t fr) := by
  have hl := kb_lt_of h
  simp only [World.setCell, Array.getElem?_modify, if_true, h]
  simp
theorem kb_set_other {w : World} {g b : Nat} {o : Obj} (h : w.heap[g]? = some o) (hne : g ≠ b) (i : Nat) (v : Value) : (w.setCell ⟨b, i, none⟩ v).heap[g]? = some o := (Below.heap_setCell w ⟨b, i, none⟩ v g hne).trans h
theorem kb_grown {w W : World} {row : Option Nat} (hg : w.grownBy W row) {g : Nat} {o : Obj} (h : w.heap[g]? = some o) (hne : some g ≠ row) : W.heap[g]? = some o := (hg.block g (kb_lt_of h) hne).trans h
end Go.Proofs.YtbikimkmkchkhaaDoor
end
section
/- version.Parse in plain Lean; the package variables that it reads. -/
namespace Go.Proofs.YtbikimkmkchkhaaDoor.PAll
open Go.RowKit Go.Lib Go.Shelf Go.Proofs.YtbikimkmkchkhaaDoor Go.Proofs.YtbikimkmkchkhaaDoorW.PrintWords Go.Proofs.YtbikimkmkchkhaaDoorW.PrintLast Go.Proofs.YtbikimkmkchkhaaDoorW.PrintMore
set_option linter.unusedVariables false
set_option linter.unusedSimpArgs false

/-- What the library's variables hold. -/
structure Tabs (w : World) : Prop where
  len : ∃ m, w.cell? ⟨0, 0, none⟩ = some (.int .i64 m)
  pow : Lib.TabIs Tryd.prog w "internal/strconv.uint64pow10" .u64 Lib.pow10Tab
  syn : ∃ tp p, w.var? Tryd.prog "strconv.ErrSyntax" = some #[.iface tp p]
  rng : ∃ tp p, w.var? Tryd.prog "strconv.ErrRange" = some #[.iface tp p]
theorem var_below {w W : World} (hb : Below w.heap.size w W) {n : String} {cs : Array Value} (h : w.var? Tryd.prog n = some cs) : W.var? Tryd.prog n = some cs := by
  unfold World.var? at h ⊢
  cases hg : Tryd.prog.globalNamed n with
  | none => rw [hg] at h; cases h
  | some g =>
    rw [hg] at h
    simp only [Option.bind_some] at h ⊢
    cases ho : w.heap[g]? with
    | none => rw [ho] at h; cases h
    | some o => rw [kb_belows hb ho]; rw [ho] at h; exact h
theorem Tabs.below {w W : World} (h : Tabs w) (hb : Below w.heap.size w W) : Tabs W := by
  obtain ⟨⟨m, hm⟩, h2, ⟨t3, p3, h3⟩, ⟨t4, p4, h4⟩⟩ := h
  exact ⟨⟨m, (hb.cell (World.block_lt_of_cell? w _ hm)).trans hm⟩, var_below hb h2, ⟨t3, p3, var_below hb h3⟩, ⟨t4, p4, var_below hb h4⟩⟩

/-- A part, read: its number, if it is told just so. -/
def pieceV (s : ByteArray) : Option Int := match Lib.atoiAll s.data.toList with
  | .ok v => if Lib.itoa v = s.data.toList then some v else none
  | _ => none
def piecesV : List ByteArray → Option (List Int)
  | [] => some []
  | s :: l => (pieceV s).bind fun v => (piecesV l).map (v :: ·)
theorem piecesV_append : ∀ (l m : List ByteArray), piecesV (l ++ m) = (piecesV l).bind fun vs => (piecesV m).map (vs ++ ·)
  | [], m => by simp [piecesV]
  | s :: l, m => by
    simp only [List.cons_append, piecesV, piecesV_append l m]
    cases pieceV s <;> simp
    cases piecesV l <;> simp
    cases piecesV m <;> simp
theorem piecesV_len : ∀ {l : List ByteArray} {vs : List Int}, piecesV l = some vs → vs.length = l.length
  | [], vs, h => by simp only [piecesV, Option.some.injEq] at h; subst h; rfl
  | s :: l, vs, h => by
    simp only [piecesV, Option.bind_eq_some_iff, Option.map_eq_some_iff] at h
    obtain ⟨v, _, ws, hw, rfl⟩ := h
    simp [piecesV_len hw]
theorem piecesV_snoc {ps : List ByteArray} {k : Nat} (hk : k < ps.length) {vs : List Int} (h : piecesV (ps.take k) = some vs) : piecesV (ps.take (k + 1)) = (pieceV ps[k]).map fun v => vs ++ [v] := by
  rw [List.take_succ_eq_append_getElem hk, piecesV_append, h]
  simp only [Option.bind_some, piecesV]
  cases pieceV ps[k] <;> simp
theorem piecesV_stop {ps : List ByteArray} {k : Nat} (hk : k < ps.length) (h : pieceV ps[k] = none) : piecesV ps = none := by
  have e : ps = ps.take k ++ ps[k] :: ps.drop (k + 1) := by rw [← List.drop_eq_getElem_cons hk, List.take_append_drop]
  rw [e, piecesV_append]
  have : piecesV (ps[k] :: ps.drop (k + 1)) = none := by simp [piecesV, h]
  rw [this]
  cases piecesV (ps.take k) <;> rfl
def dot : ByteArray := ⟨#[46]⟩
def frontOf (s : ByteArray) : ByteArray := ⟨(Lib.cut s.data.toList [45]).1.toArray⟩
def tailOf (s : ByteArray) : ByteArray := ⟨(Lib.cut s.data.toList [45]).2.1.toArray⟩
def isCut (s : ByteArray) : Bool := (Lib.cut s.data.toList [45]).2.2
def partsOf (f : ByteArray) : List ByteArray := Lib.splitB dot 0 (Lib.countB f dot) f
def badP : List Int × ByteArray × Int := ([], ⟨#[]⟩, 170)
def parseV (s : ByteArray) : List Int × ByteArray × Int := match piecesV (partsOf (frontOf s)) with
  | none => badP
  | some vs => if (isCut s && (tailOf s).toList.isEmpty) || badV vs (tailOf s) then badP else (vs, tailOf s, 0)
theorem atoi_range {l : List UInt8} {v : Int} (h : Lib.atoiAll l = .ok v) : -9223372036854775808 ≤ v ∧ v ≤ 9223372036854775807 := by
  cases l with
  | nil => simp [Lib.atoiAll] at h
  | cons c r =>
    unfold Lib.atoiAll at h
    simp only [] at h
    split at h
    · cases h
    · cases h
    · split at h
      · cases h
      · split at h
        · cases h
        · rename_i u _ h1 h2
          simp only [NumEnd.ok.injEq] at h
          by_cases hn : c.toNat = 45
          · rw [if_pos hn] at h
            have : ¬ 9223372036854775808 < u := fun h => h2 ⟨hn, h⟩
            omega
          · rw [if_neg hn] at h
            have : ¬ 9223372036854775808 ≤ u := fun h => h1 ⟨hn, h⟩
            omega
/-- strconv.Atoi, whatever the text. -/
def atoiN (s : ByteArray) : Int := match Lib.atoiAll s.data.toList with | .ok v => v | .range => Lib.atoiSat s.data.toList | _ => 0
def atoiErr (s : ByteArray) : Bool := match Lib.atoiAll s.data.toList with | .ok _ => false | _ => true
theorem bytesWorld_below (w : World) (t : ByteArray) : Below w.heap.size w (Lib.bytesWorld w 5 t) := bytes_below (Below.refl _ _) (Nat.le_refl _) 5 t
theorem atoi_three (s : ByteArray) : (∃ v, Lib.atoiAll s.data.toList = .ok v) ∨ Lib.atoiAll s.data.toList = Lib.atoiAll [] ∨ Lib.atoiAll s.data.toList = .range := by
  cases h : Lib.atoiAll s.data.toList
  · exact Or.inl ⟨_, rfl⟩
  · exact Or.inr (Or.inl rfl)
  · exact Or.inr (Or.inr rfl)
theorem atoi_calls (s : ByteArray) (w : World) (hs : s.size ≤ 281474976710656) (hT : Tabs w) :
    Calls Tryd.prog 29 #[.string s] w fun e w' => ∃ ev, e = .returned (.tuple #[.int .i64 (atoiN s), ev]) ∧ (if atoiErr s then ∃ p, ev = .iface 82 p else ev = .nilIface) ∧ Below w.heap.size w w' := by
  rcases atoi_three s with ⟨v, h⟩ | h | h
  · have e1 : atoiN s = v := by unfold atoiN; rw [h]
    have e2 : atoiErr s = false := by unfold atoiErr; rw [h]
    rw [e1, e2]
    refine (Tryd.strconv_Atoi_ok s (by omega) v h w).mono ?_
    rintro e w' ⟨rfl, hw⟩
    refine ⟨_, rfl, rfl, ?_⟩
    rcases hw with rfl | ⟨t, rfl⟩
    · exact Below.refl _ _
    · exact bytesWorld_below _ _
  · have e1 : atoiN s = 0 := by unfold atoiN; rw [h]; rfl
    have e2 : atoiErr s = true := by unfold atoiErr; rw [h]; rfl
    rw [e1, e2]
    obtain ⟨tp, p, hv⟩ := hT.syn
    refine (Tryd.strconv_Atoi_syntax_var s hs h tp p w hv).mono ?_
    rintro e w' ⟨n, rfl, _, _, hb⟩
    exact ⟨_, rfl, ⟨_, rfl⟩, hb⟩
  · have e1 : atoiN s = Lib.atoiSat s.data.toList := by unfold atoiN; rw [h]
    have e2 : atoiErr s = true := by unfold atoiErr; rw [h]
    rw [e1, e2]
    obtain ⟨tp, p, hv⟩ := hT.rng
    refine (Tryd.strconv_Atoi_range_var s hs h tp p w hv).mono ?_
    rintro e w' ⟨n, rfl, _, _, hb⟩
    exact ⟨_, rfl, ⟨_, rfl⟩, hb⟩
theorem atoi_ok {s : ByteArray} (h : atoiErr s = false) : Lib.atoiAll s.data.toList = .ok (atoiN s) := by
  unfold atoiErr at h
  unfold atoiN
  rcases atoi_three s with ⟨v, h2⟩ | h2 | h2
  · rw [h2]
  · rw [h2] at h; cases h
  · rw [h2] at h; cases h
def itoaS (n : Int) : ByteArray := ⟨(Lib.itoa n).toArray⟩
theorem itoa_calls (n : Int) (h0 : -9223372036854775808 ≤ n) (h1 : n ≤ 9223372036854775807) (w : World) (hT : Tabs w) :
    Calls Tryd.prog 25 #[.int .i64 n] w fun e w' => e = .returned (.string (itoaS n)) ∧ Below w.heap.size w w' := by
  refine (Tryd.strconv_Itoa n h0 h1 w hT.pow).mono ?_
  rintro e w' ⟨rfl, k, os, rfl⟩
  exact ⟨rfl, Lib.below_grow _ _ (Nat.le_refl _) _ _⟩
theorem pieceV_eq (s : ByteArray) : pieceV s = if atoiErr s = false ∧ (itoaS (atoiN s)).toList = s.toList then some (atoiN s) else none := by
  have e : ∀ b : ByteArray, b.toList = b.data.toList := ByteArray.toList_eq
  unfold pieceV atoiErr atoiN itoaS
  rw [e, e]
  rcases atoi_three s with ⟨v, h2⟩ | h2 | h2
  · rw [h2]; simp
  · rw [h2]; simp [Lib.atoiAll]
  · rw [h2]; simp
end Go.Proofs.YtbikimkmkchkhaaDoor.PAll
end
section
/- version.Parse, walked. -/
namespace Go.Proofs.YtbikimkmkchkhaaDoor.PAll
open Go.RowKit Go.Lib Go.Shelf Go.Proofs.YtbikimkmkchkhaaDoor Go.Proofs.YtbikimkmkchkhaaDoorW.PrintWords Go.Proofs.YtbikimkmkchkhaaDoorW.PrintLast Go.Proofs.YtbikimkmkchkhaaDoorW.PrintMore
attribute [local go_sem] Oper.semAt_some
set_option linter.unusedVariables false
set_option linter.unusedSimpArgs false

theorem cut_calls (s : ByteArray) (w : World) (hs : s.size < 4294967281) (hT : Tabs w) :
    Calls Tryd.prog 27 #[.string s, .string ⟨#[45]⟩] w fun e w' => e = .returned (.tuple #[.string (frontOf s), .string (tailOf s), .bool (isCut s)]) ∧ ∃ n, w' = w.drewN n := by
  obtain ⟨m, hm⟩ := hT.len
  exact Tryd.strings_Cut s ⟨#[45]⟩ m w hs hm
theorem partsOf_length (f : ByteArray) : (partsOf f).length = Lib.countB f dot + 1 := Lib.splitB_all dot (by decide) 0 _ f rfl
theorem splitB_sizes (sep : ByteArray) : ∀ (k : Nat) (s x : ByteArray), x ∈ Lib.splitB sep 0 k s → x.size ≤ s.size
  | 0, s, x, h => by
    rw [Lib.splitB_zero, List.mem_singleton] at h
    rw [h]; exact Nat.le_refl _
  | k + 1, s, x, h => by
    unfold Lib.splitB at h
    split at h
    · rw [List.mem_singleton] at h
      rw [h]; exact Nat.le_refl _
    · rcases List.mem_cons.1 h with rfl | h
      · rw [ByteArray.size_extract]; omega
      · have := splitB_sizes sep k _ x h
        rw [ByteArray.size_extract] at this
        omega
theorem countB_le (f : ByteArray) : Lib.countB f dot ≤ f.size := Lib.countB_le dot (by decide) _ f (Nat.le_refl _)
theorem split_calls (f : ByteArray) (w : World) (hs : f.size < 4294967281) (hT : Tabs w) :
    Calls Tryd.prog 28 #[.string f, .string ⟨#[46]⟩] w fun e w' => e = .returned (.slice (some ⟨w.heap.size, 0, none⟩) (partsOf f).length (partsOf f).length) ∧ w' = w.alloc (.cells ((partsOf f).map Value.string).toArray 9) := by
  obtain ⟨m, hm⟩ := hT.len
  have := Tryd.strings_Split f ⟨#[46]⟩ m w hs hm (by decide)
  rw [show (partsOf f).length = Lib.countB f dot + 1 from partsOf_length f]
  exact this
theorem cut_len (l : List UInt8) (c : UInt8) : (Lib.cut l [c]).1.length ≤ l.length ∧ (Lib.cut l [c]).2.1.length ≤ l.length := by
  unfold Lib.cut
  split
  · exact ⟨by rw [List.length_take]; omega, by rw [List.length_drop]; omega⟩
  · exact ⟨Nat.le_refl _, by simp⟩
theorem frontOf_size (s : ByteArray) (hs : s.size < 4294967281) : (frontOf s).size < 4294967281 := by
  have h := (cut_len s.data.toList 45).1
  have e : s.data.toList.length = s.size := Array.length_toList
  show (Lib.cut s.data.toList [45]).1.toArray.size < _
  rw [List.size_toArray]; omega
theorem tailOf_size (s : ByteArray) (hs : s.size < 4294967281) : (tailOf s).size < 4294967281 := by
  have h := (cut_len s.data.toList 45).2
  have e : s.data.toList.length = s.size := Array.length_toList
  show (Lib.cut s.data.toList [45]).2.1.toArray.size < _
  rw [List.size_toArray]; omega
theorem owns_below {w W : World} (hb : Below w.heap.size w W) {base : Nat} {e : TypeId} {size n : Nat} {v : Value} {xs : List Value} (h : w.ownsRow base e size v n xs) : W.ownsRow base e size v n xs := by
  obtain ⟨h1, h2⟩ := h
  refine ⟨h1, ?_⟩
  rcases h2 with h2 | ⟨g, cap, cur, hv, hg, hh, r⟩
  · exact Or.inl h2
  · exact Or.inr ⟨g, cap, cur, hv, hg, kb_belows hb hh, r⟩
theorem owns_base {w : World} {base base' : Nat} {e : TypeId} {size n : Nat} {v : Value} {xs : List Value} (h : w.ownsRow base e size v n xs) (hb : base' ≤ base) : w.ownsRow base' e size v n xs := by
  obtain ⟨h1, h2⟩ := h
  refine ⟨h1, ?_⟩
  rcases h2 with h2 | ⟨g, cap, cur, hv, hg, hh, r⟩
  · exact Or.inl h2
  · exact Or.inr ⟨g, cap, cur, hv, by omega, hh, r⟩
theorem owns_set {w : World} {base : Nat} {e : TypeId} {size n : Nat} {v : Value} {xs : List Value} (h : w.ownsRow base e size v n xs) {b : Nat} (hb : b < base) (i : Nat) (x : Value) : (w.setCell ⟨b, i, none⟩ x).ownsRow base e size v n xs := by
  obtain ⟨h1, h2⟩ := h
  refine ⟨h1, ?_⟩
  rcases h2 with h2 | ⟨g, cap, cur, hv, hg, hh, r⟩
  · exact Or.inl h2
  · exact Or.inr ⟨g, cap, cur, hv, hg, kb_set_other hh (by omega) i x, r⟩
theorem own_ge {w : World} {base : Nat} {e : TypeId} {size n : Nat} {v : Value} {xs : List Value} (h : w.ownsRow base e size v n xs) {k : Nat} (hk : v.ownBlock = some k) : base ≤ k := by
  obtain ⟨_, h2⟩ := h
  rcases h2 with ⟨rfl, _⟩ | ⟨g, cap, cur, rfl, hg, hh, r⟩
  · cases hk
  · have : g = k := by simpa [Value.ownBlock] using hk
    omega
/-- Where the loop of Parse stands. -/
structure PSt (w : World) (u : ByteArray) (ps : List ByteArray) (k : Nat) (vs : List Int) (v : Value) (W : World) : Prop where
  below : Below w.heap.size w W
  b0 : W.heap[w.heap.size]? = some (.cells #[.slice none 0 0, .string ⟨#[]⟩] 24 (0, 0))
  b1 : W.heap[w.heap.size + 1]? = some (.cells #[v, .string u] 24 (0, 0))
  b2 : W.heap[w.heap.size + 2]? = some (.cells (ps.map Value.string).toArray 9 (0, 0))
  own : W.ownsRow (w.heap.size + 3) 3 1 v vs.length (vs.map (Value.int .i64))
  size : w.heap.size + 3 ≤ W.heap.size
  got : piecesV (ps.take k) = some vs
theorem PSt.step {w : World} {u : ByteArray} {ps : List ByteArray} {k : Nat} {vs : List Int} {v : Value} {W W' : World} (h : PSt w u ps k vs v W) (hb : Below W.heap.size W W') : PSt w u ps k vs v W' where
  below := h.below.trans (hb.mono h.below.size)
  b0 := kb_belows hb h.b0
  b1 := kb_belows hb h.b1
  b2 := kb_belows hb h.b2
  own := owns_below hb h.own
  size := Nat.le_trans h.size hb.size
  got := h.got
theorem PSt.next {w : World} {u : ByteArray} {ps : List ByteArray} {k : Nat} {vs : List Int} {v : Value} {W W' : World} (h : PSt w u ps k vs v W) (hk : k < ps.length) {n : Int} (hn : pieceV ps[k] = some n) {v' : Value}
    (ho : W'.ownsRow (w.heap.size + 3) 3 1 v' (vs.length + 1) (vs.map (Value.int .i64) ++ [.int .i64 n])) (hg : W.grownBy W' v.ownBlock) : PSt w u ps (k + 1) (vs ++ [n]) v' (W'.setCell ⟨w.heap.size + 1, 0, none⟩ v') := by
  have hr : ∀ g, v.ownBlock = some g → w.heap.size + 3 ≤ g := fun g hg => own_ge h.own hg
  have ne : ∀ g, g < w.heap.size + 3 → some g ≠ v.ownBlock := fun g hl e => by have := hr g e.symm; omega
  have b1 := kb_grown hg h.b1 (ne _ (by omega))
  refine ⟨(h.below.grown hg h.below.size (fun k hk => by have := hr k hk; omega)).setCell (p := ⟨_, 0, none⟩) (by show w.heap.size ≤ w.heap.size + 1; omega) _, kb_set_other (kb_grown hg h.b0 (ne _ (by omega))) (by omega) _ _, ?_, kb_set_other (kb_grown hg h.b2 (ne _ (by omega))) (by omega) _ _, ?_, ?_, ?_⟩
  · have := kb_set b1 0 v'
    simpa using this
  · rw [List.length_append, List.map_append]
    exact owns_set ho (by omega) _ _
  · have := hg.size; have := h.size
    simp [World.setCell]; omega
  · rw [piecesV_snoc hk h.got, hn]; rfl
theorem parse_none {s f u : ByteArray} {b : Bool} {ps : List ByteArray} (hf : frontOf s = f) (hps : partsOf f = ps) (h : piecesV ps = none) : parseV s = badP := by
  unfold parseV
  rw [hf, hps, h]
theorem parse_some {s f u : ByteArray} {b : Bool} {ps : List ByteArray} {vs : List Int} (hf : frontOf s = f) (hu : tailOf s = u) (hb : isCut s = b) (hps : partsOf f = ps) (h : piecesV ps = some vs) : parseV s = if (b && u.toList.isEmpty) || badV vs u then badP else (vs, u, 0) := by
  unfold parseV
  rw [hf, hps, h, hu, hb]
theorem cell_new_one (w : World) (v : Value) (t : TypeId) : ∀ j u, [v][j]? = some u → (w.alloc (.cells #[v] t)).cell? ((⟨w.heap.size, 0, none⟩ : Addr).add j) = some u := by
  intro j u hu
  cases j with
  | zero =>
    obtain rfl : v = u := by simpa using hu
    show (w.alloc (.cells #[v] t)).cell? ⟨w.heap.size, 0, none⟩ = _
    rw [kb_cell_of (kb_new w _)]; rfl
  | succ j => simp at hu
theorem info3_ : (Tryd.prog.info? 3).map (fun i => (i.zero, i.size, i.bytes)) = some (some (.int .i64 0), 1, 8) := by kernel_rfl
set_option maxRecDepth 100000 in
set_option maxHeartbeats 4000000 in
theorem parse_calls (s : ByteArray) (w : World) (hs : s.size < 4294967281) (hT : Tabs w) :
    Calls Tryd.prog 17 #[.string s] w fun e w' => ∃ v0_ : Value, e = .returned (.tuple #[.agg #[v0_, .string (parseV s).2.1], .int .i64 (parseV s).2.2]) ∧ Kd.R (Kd.int .i64) 3 w' w.heap.size (fun _ => True) v0_ (parseV s).1 ∧ Below w.heap.size w w' := by
  have hB1 := (Below.refl w.heap.size w).alloc (Nat.le_refl _) (.cells #[.slice none 0 0, .string ⟨#[]⟩] 24)
  have hcut := cut_calls s _ hs (hT.below hB1)
  obtain ⟨f, hf⟩ : ∃ f, frontOf s = f := ⟨_, rfl⟩
  obtain ⟨u, hu⟩ : ∃ u, tailOf s = u := ⟨_, rfl⟩
  obtain ⟨b, hb⟩ : ∃ b, isCut s = b := ⟨_, rfl⟩
  rw [hf, hu, hb] at hcut
  have hfs : f.size < 4294967281 := by rw [← hf]; exact frontOf_size s hs
  have hus : u.size < 4294967281 := by rw [← hu]; exact tailOf_size s hs
  have HT := Aside0.mk hT; have HF := Aside0.mk hf; have HU := Aside0.mk hu; have HB := Aside0.mk hb; have H1 := Aside0.mk hB1
  clear hT hf hu hb hB1
  go_enter Tryd.func17, Tryd.ntmps17
  go_wp2_with fail
  refine hcut.mono ?_
  clear hcut
  rintro e w1 ⟨rfl, n1, rfl⟩
  go_wp2_with fail
  have hB2 : Below w.heap.size w (((w.alloc (.cells #[.slice none 0 0, .string ⟨#[]⟩] 24)).drewN n1).alloc (.cells #[.slice none 0 0, .string u] 24)) := (pw_below_drewN H1.out n1).alloc (by simp) _
  have k0 : (((w.alloc (.cells #[.slice none 0 0, .string ⟨#[]⟩] 24)).drewN n1).alloc (.cells #[.slice none 0 0, .string u] 24)).heap[w.heap.size]? = some (.cells #[.slice none 0 0, .string ⟨#[]⟩] 24 (0, 0)) := kb_alloc (kb_drewN (kb_new _ _) _) _
  have k1 : (((w.alloc (.cells #[.slice none 0 0, .string ⟨#[]⟩] 24)).drewN n1).alloc (.cells #[.slice none 0 0, .string u] 24)).heap[w.heap.size + 1]? = some (.cells #[.slice none 0 0, .string u] 24 (0, 0)) := by
    have := kb_new ((w.alloc (.cells #[.slice none 0 0, .string ⟨#[]⟩] 24)).drewN n1) (.cells #[.slice none 0 0, .string u] 24)
    simpa using this
  have z2 : (((w.alloc (.cells #[.slice none 0 0, .string ⟨#[]⟩] 24)).drewN n1).alloc (.cells #[.slice none 0 0, .string u] 24)).heap.size = w.heap.size + 2 := by simp
  generalize ((w.alloc (.cells #[.slice none 0 0, .string ⟨#[]⟩] 24)).drewN n1).alloc (.cells #[.slice none 0 0, .string u] 24) = W2 at *
  refine (split_calls f W2 hfs (HT.out.below hB2)).mono ?_
  rintro e w1 ⟨rfl, rfl⟩
  obtain ⟨ps, hps⟩ : ∃ ps, partsOf f = ps := ⟨_, rfl⟩
  have hpl : ps.length ≤ 4294967281 := by
    rw [← hps, partsOf_length]
    have := countB_le f
    omega
  have hpe : ∀ x ∈ ps, x.size < 4294967281 := fun x hx => by
    have := splitB_sizes dot _ f x (by rw [← hps] at hx; exact hx)
    omega
  rw [hps]
  have HPS := Aside0.mk hps
  clear hps
  have k0 := kb_alloc k0 (.cells (ps.map Value.string).toArray 9)
  have k1 := kb_alloc k1 (.cells (ps.map Value.string).toArray 9)
  have k2 := kb_new W2 (.cells (ps.map Value.string).toArray 9)
  have hB3 := hB2.alloc (by omega) (.cells (ps.map Value.string).toArray 9)
  have z3 : (W2.alloc (.cells (ps.map Value.string).toArray 9)).heap.size = w.heap.size + 3 := by simp [z2]
  rw [z2] at k2 ⊢
  generalize W2.alloc (.cells (ps.map Value.string).toArray 9) = W3 at *
  have K0 := Aside0.mk k0; have K1 := Aside0.mk k1; have K2 := Aside0.mk k2; have HB3 := Aside0.mk hB3; have Z3 := Aside0.mk z3
  clear k0 k1 k2 hB2 hB3 z2 z3 H1
  have P0 : PSt w u ps 0 [] (.slice none 0 0) W3 := ⟨HB3.out, K0.out, K1.out, K2.out, World.ownsRow_nil _ _ _ _, by have := Z3.out; omega, rfl⟩
  clear K0 K1 K2 HB3 Z3
  go_wp2
  go_loopw [23] (fun i W => ∃ (k : Nat) (vs : List Int) (v : Value), i = .int .i64 (k : Int) ∧ k ≤ ps.length ∧ PSt w u ps k vs v W) (fun i _ => ps.length - (RowKit.intOf i).toNat)
  case atStart => exact ⟨0, [], _, rfl, Nat.zero_le _, P0⟩
  case round =>
    clear P0
    obtain ⟨k, vs, v, rfl, hk, hP⟩ := hrel
    by_cases hlt : k < ps.length
    · have t1 : decide ((k : Int) < (ps.length : Int)) = true := decide_eq_true (by omega)
      have p0 : (0 : Int) ≤ (k : Int) := by omega
      have c2 : wr.cell? ⟨w.heap.size + 2, k, none⟩ = some (.string ps[k]) := by rw [kb_cell_of hP.b2 k]; simp [hlt]
      obtain ⟨x, hx⟩ : ∃ x, ps[k] = x := ⟨_, rfl⟩
      have hxs : x.size < 4294967281 := by rw [← hx]; exact hpe _ (List.getElem_mem hlt)
      rw [hx] at c2
      have HX := Aside0.mk hx
      clear hx
      have hat := atoi_calls x wr (by omega) (HT.out.below hP.below)
      cases hae : atoiErr x with
      | true =>
        simp only [hae, if_true] at hat
        have hpv : pieceV x = none := by rw [pieceV_eq, if_neg (by rw [hae]; simp)]
        have hbad := parse_none (u := u) (b := b) HF.out HPS.out (piecesV_stop hlt (by rw [HX.out]; exact hpv))
        have HV := Aside0.mk hbad
        clear hbad hpv hae
        have HAT := Aside0.mk hat
        clear hat
        go_wp2_with fail
        refine HAT.out.mono ?_
        rintro e w1 ⟨ev, rfl, ⟨p, rfl⟩, hb1⟩
        have hP1 := hP.step hb1
        have c0 : w1.cell? ⟨w.heap.size, 0, none⟩ = some (.slice none 0 0) := by rw [kb_cell_of hP1.b0 0]; rfl
        have c1 : w1.cell? ⟨w.heap.size, 1, none⟩ = some (.string ⟨#[]⟩) := by rw [kb_cell_of hP1.b0 1]; rfl
        have f0 : w1.frozen? ⟨w.heap.size, 0, none⟩ = false := kb_free_of hP1.b0 0
        have f1 : w1.frozen? ⟨w.heap.size, 1, none⟩ = false := kb_free_of hP1.b0 1
        clear hb1
        go_wp2
        have hb2 : ((w1.setCell ⟨w.heap.size, 0, none⟩ (.slice none 0 0)).setCell ⟨w.heap.size, 1, none⟩ (.string ⟨#[]⟩)).heap[w.heap.size]? = some (.cells #[.slice none 0 0, .string ⟨#[]⟩] 24 (0, 0)) := by
          have := kb_set (kb_set hP1.b0 0 (.slice none 0 0)) 1 (.string ⟨#[]⟩)
          simpa using this
        refine bodyPost_ret (results_ct rfl _ _ w.heap.size 24 #[.slice none 0 0, .string ⟨#[]⟩] (0, 0) _ rfl hb2 Tryd.underlying24 rfl (by kernel_rfl)) rfl ?_
        rw [HV.out]
        refine ⟨_, rfl, Kd.R_of_own (World.ownsRow_nil _ _ _ _) (fun _ _ => trivial), ?_⟩
        exact (hP1.below.setCell (p := ⟨_, 0, none⟩) (Nat.le_refl _) _).setCell (p := ⟨_, 1, none⟩) (Nat.le_refl _) _
      | false =>
        simp only [hae, Bool.false_eq_true, if_false] at hat
        have hr := atoi_range (atoi_ok hae)
        obtain ⟨n, hn⟩ : ∃ n, atoiN x = n := ⟨_, rfl⟩
        rw [hn] at hat hr
        have HAT := Aside0.mk hat
        clear hat
        by_cases heq : (itoaS n).toList = x.toList
        · have hpv : pieceV ps[k] = some n := by rw [HX.out, pieceV_eq, hn, if_pos ⟨hae, heq⟩]
          have HV := Aside0.mk hpv
          have q1 : ((itoaS n).toList != x.toList) = false := by simp [heq]
          have q2 : ((itoaS n).toList == x.toList) = true := by simp [heq]
          clear hpv hn hae heq
          obtain ⟨y, hy⟩ : ∃ y, itoaS n = y := ⟨_, rfl⟩
          have hit := fun W h => itoa_calls n hr.1 hr.2 W h
          rw [hy] at hit q1 q2
          clear hy
          have HIT := Aside0.mk hit
          clear hit
          obtain ⟨i0, hi, hz0, hz1, hz2⟩ := info_parts info3_
          go_wp2_with fail
          refine HAT.out.mono ?_
          rintro e w1 ⟨ev, rfl, rfl, hb1⟩
          have hP1 := hP.step hb1
          clear hb1
          go_wp2_with fail
          refine (HIT.out _ (HT.out.below hP1.below)).mono ?_
          rintro e w2 ⟨rfl, hb2⟩
          have hP2 := hP1.step hb2
          clear hb2 hP1
          have c0 : w2.cell? ⟨w.heap.size + 1, 0, none⟩ = some v := by rw [kb_cell_of hP2.b1 0]; rfl
          have fz : w2.frozen? ⟨w.heap.size + 1, 0, none⟩ = false := kb_free_of hP2.b1 0
          have hvl := piecesV_len hP2.got
          have hvl2 : vs.length = k := by rw [hvl, List.length_take]; omega
          have HVL := Aside0.mk hvl2
          clear hvl hvl2
          go_wp2_with (at_builtin; refine wpList_append_lies _ (by rfl) _ _ 22 (by rfl) (w.heap.size + 3) 3 i0 (.int .i64 0) 1 8 Tryd.underlying22 hi hz0 hz1 hz2 rfl (by decide) v vs.length (vs.map (Value.int .i64)) (by rfl) (hP2.own.alloc _) ⟨w2.heap.size, 0, none⟩ 1 1 [.int .i64 n] (by rfl) rfl (cell_new_one w2 _ _) (by simp [Value.oneCell']) (by omega) (by have := HVL.out; simp only [maxLen]; omega) (by have := HVL.out; omega) (by have := hP2.size; simp; omega) (w2.heap.size + 1) (by simp) ?_; intro g cap w3 ho hg _ _; have hPa := hP2.step ((Below.refl w2.heap.size w2).alloc (Nat.le_refl _) (.cells #[.int .i64 n] 3)); have kb := kb_grown hg hPa.b1 (fun e => by have := own_ge hPa.own e.symm; omega); have c3 : w3.cell? ⟨w.heap.size + 1, 0, none⟩ = some v := (by rw [kb_cell_of kb 0]; rfl); have f3 : w3.frozen? ⟨w.heap.size + 1, 0, none⟩ = false := kb_free_of kb 0; have hPn := hPa.next hlt HV.out ho hg; clear hPa kb ho hg)
          go_roundw
          case rel => exact ⟨k + 1, vs ++ [n], _, by go_num, by omega, hPn⟩
          case measure => simp [RowKit.intOf]; omega
        · have hpv : pieceV x = none := by rw [pieceV_eq, hn, if_neg (fun h => heq h.2)]
          have hbad := parse_none (u := u) (b := b) HF.out HPS.out (piecesV_stop hlt (by rw [HX.out]; exact hpv))
          have HV := Aside0.mk hbad
          have q1 : ((itoaS n).toList != x.toList) = true := by simp [heq]
          have q2 : ((itoaS n).toList == x.toList) = false := by simp [heq]
          clear hbad hpv hn hae heq
          obtain ⟨y, hy⟩ : ∃ y, itoaS n = y := ⟨_, rfl⟩
          have hit := fun W h => itoa_calls n hr.1 hr.2 W h
          rw [hy] at hit q1 q2
          clear hy
          have HIT := Aside0.mk hit
          clear hit
          go_wp2_with fail
          refine HAT.out.mono ?_
          rintro e w2 ⟨ev, rfl, rfl, hb2⟩
          have hP2 := hP.step hb2
          clear hb2
          go_wp2_with fail
          refine (HIT.out _ (HT.out.below hP2.below)).mono ?_
          rintro e w1 ⟨rfl, hb1⟩
          have hP1 := hP2.step hb1
          have c0 : w1.cell? ⟨w.heap.size, 0, none⟩ = some (.slice none 0 0) := by rw [kb_cell_of hP1.b0 0]; rfl
          have c1 : w1.cell? ⟨w.heap.size, 1, none⟩ = some (.string ⟨#[]⟩) := by rw [kb_cell_of hP1.b0 1]; rfl
          have f0 : w1.frozen? ⟨w.heap.size, 0, none⟩ = false := kb_free_of hP1.b0 0
          have f1 : w1.frozen? ⟨w.heap.size, 1, none⟩ = false := kb_free_of hP1.b0 1
          clear hb1
          go_wp2
          have hb2 : ((w1.setCell ⟨w.heap.size, 0, none⟩ (.slice none 0 0)).setCell ⟨w.heap.size, 1, none⟩ (.string ⟨#[]⟩)).heap[w.heap.size]? = some (.cells #[.slice none 0 0, .string ⟨#[]⟩] 24 (0, 0)) := by
            have := kb_set (kb_set hP1.b0 0 (.slice none 0 0)) 1 (.string ⟨#[]⟩)
            simpa using this
          refine bodyPost_ret (results_ct rfl _ _ w.heap.size 24 #[.slice none 0 0, .string ⟨#[]⟩] (0, 0) _ rfl hb2 Tryd.underlying24 rfl (by kernel_rfl)) rfl ?_
          rw [HV.out]
          refine ⟨_, rfl, Kd.R_of_own (World.ownsRow_nil _ _ _ _) (fun _ _ => trivial), ?_⟩
          exact (hP1.below.setCell (p := ⟨_, 0, none⟩) (Nat.le_refl _) _).setCell (p := ⟨_, 1, none⟩) (Nat.le_refl _) _
    · have hkl : k = ps.length := by omega
      have t1 : decide ((k : Int) < (ps.length : Int)) = false := decide_eq_false (by omega)
      have hps : piecesV ps = some vs := by rw [← hP.got, hkl, List.take_length]
      have hval := parse_some HF.out HU.out HB.out HPS.out hps
      have hvl := piecesV_len hps
      have hvl2 : vs.length ≤ 140737488355328 := by omega
      have hC : Kd.R (Kd.int .i64) 3 wr w.heap.size (fun _ => True) v vs := Kd.R_of_own (owns_base hP.own (by omega)) (fun _ _ => trivial)
      obtain ⟨A, c, rfl, hle, hCC⟩ := Kd.R_reads hC
      have hchk := check_calls A c vs u wr hCC hvl2 (by omega)
      have d0' : wr.cell? ⟨w.heap.size + 1, 0, none⟩ = some (.slice A vs.length c) := by rw [kb_cell_of hP.b1 0]; rfl
      have d1' : wr.cell? ⟨w.heap.size + 1, 1, none⟩ = some (.string u) := by rw [kb_cell_of hP.b1 1]; rfl
      cases b with
      | true =>
        by_cases hu0 : u.toList = []
        · obtain rfl := empty_of hu0
          have HV : Aside0 (parseV s = badP) := ⟨by rw [hval, if_pos]; rw [hu0]; rfl⟩
          clear hchk hval hvl hvl2 hps hC hCC hu0
          have c0 : wr.cell? ⟨w.heap.size, 0, none⟩ = some (.slice none 0 0) := by rw [kb_cell_of hP.b0 0]; rfl
          have c1 : wr.cell? ⟨w.heap.size, 1, none⟩ = some (.string ⟨#[]⟩) := by rw [kb_cell_of hP.b0 1]; rfl
          have f0 : wr.frozen? ⟨w.heap.size, 0, none⟩ = false := kb_free_of hP.b0 0
          have f1 : wr.frozen? ⟨w.heap.size, 1, none⟩ = false := kb_free_of hP.b0 1
          go_wp2
          have hb2 : ((wr.setCell ⟨w.heap.size, 0, none⟩ (.slice none 0 0)).setCell ⟨w.heap.size, 1, none⟩ (.string ⟨#[]⟩)).heap[w.heap.size]? = some (.cells #[.slice none 0 0, .string ⟨#[]⟩] 24 (0, 0)) := by
            have := kb_set (kb_set hP.b0 0 (.slice none 0 0)) 1 (.string ⟨#[]⟩)
            simpa using this
          refine bodyPost_ret (results_ct rfl _ _ w.heap.size 24 #[.slice none 0 0, .string ⟨#[]⟩] (0, 0) _ rfl hb2 Tryd.underlying24 rfl (by kernel_rfl)) rfl ?_
          rw [HV.out]
          refine ⟨_, rfl, Kd.R_of_own (World.ownsRow_nil _ _ _ _) (fun _ _ => trivial), ?_⟩
          exact (hP.below.setCell (p := ⟨_, 0, none⟩) (Nat.le_refl _) _).setCell (p := ⟨_, 1, none⟩) (Nat.le_refl _) _
        · have e1 : u.toList.isEmpty = false := by simpa using hu0
          have hnb : (true && u.toList.isEmpty) = false := by rw [e1]; rfl
          cases hbv : badV vs u with
          | true =>
            have HV : Aside0 (parseV s = badP) := ⟨by rw [hval, hbv, Bool.or_true, if_pos rfl]⟩
            have hk0 : chkV vs u = 170 := by unfold chkV; rw [hbv, if_pos rfl]
            rw [hk0] at hchk
            have HK := Aside0.mk hchk
            clear hchk hval hvl hvl2 hps hC hCC hk0 hbv
            go_wp2_with fail
            refine (HK.out.mono ?_)
            rintro e w1 ⟨rfl, hb1⟩
            have hP1 := hP.step hb1
            clear hb1
            have c0 : w1.cell? ⟨w.heap.size, 0, none⟩ = some (.slice none 0 0) := by rw [kb_cell_of hP1.b0 0]; rfl
            have c1 : w1.cell? ⟨w.heap.size, 1, none⟩ = some (.string ⟨#[]⟩) := by rw [kb_cell_of hP1.b0 1]; rfl
            have f0 : w1.frozen? ⟨w.heap.size, 0, none⟩ = false := kb_free_of hP1.b0 0
            have f1 : w1.frozen? ⟨w.heap.size, 1, none⟩ = false := kb_free_of hP1.b0 1
            go_wp2
            have hb2 : ((w1.setCell ⟨w.heap.size, 0, none⟩ (.slice none 0 0)).setCell ⟨w.heap.size, 1, none⟩ (.string ⟨#[]⟩)).heap[w.heap.size]? = some (.cells #[.slice none 0 0, .string ⟨#[]⟩] 24 (0, 0)) := by
              have := kb_set (kb_set hP1.b0 0 (.slice none 0 0)) 1 (.string ⟨#[]⟩)
              simpa using this
            refine bodyPost_ret (results_ct rfl _ _ w.heap.size 24 #[.slice none 0 0, .string ⟨#[]⟩] (0, 0) _ rfl hb2 Tryd.underlying24 rfl (by kernel_rfl)) rfl ?_
            rw [HV.out]
            refine ⟨_, rfl, Kd.R_of_own (World.ownsRow_nil _ _ _ _) (fun _ _ => trivial), ?_⟩
            exact (hP1.below.setCell (p := ⟨_, 0, none⟩) (Nat.le_refl _) _).setCell (p := ⟨_, 1, none⟩) (Nat.le_refl _) _
          | false =>
            have HV : Aside0 (parseV s = (vs, u, 0)) := ⟨by rw [hval, hbv, hnb, Bool.or_false, if_neg (by simp)]⟩
            have hk0 : chkV vs u = 0 := by unfold chkV; rw [hbv, if_neg (by simp)]
            rw [hk0] at hchk
            have HK := Aside0.mk hchk
            clear hchk hval hvl hvl2 hps hC hCC hk0 hbv hnb
            go_wp2_with fail
            refine (HK.out.mono ?_)
            rintro e w1 ⟨rfl, hb1⟩
            have hP1 := hP.step hb1
            clear hb1
            have c0 : w1.cell? ⟨w.heap.size, 0, none⟩ = some (.slice none 0 0) := by rw [kb_cell_of hP1.b0 0]; rfl
            have c1 : w1.cell? ⟨w.heap.size, 1, none⟩ = some (.string ⟨#[]⟩) := by rw [kb_cell_of hP1.b0 1]; rfl
            have d0 : w1.cell? ⟨w.heap.size + 1, 0, none⟩ = some (.slice A vs.length c) := by rw [kb_cell_of hP1.b1 0]; rfl
            have d1 : w1.cell? ⟨w.heap.size + 1, 1, none⟩ = some (.string u) := by rw [kb_cell_of hP1.b1 1]; rfl
            have f0 : w1.frozen? ⟨w.heap.size, 0, none⟩ = false := kb_free_of hP1.b0 0
            have f1 : w1.frozen? ⟨w.heap.size, 1, none⟩ = false := kb_free_of hP1.b0 1
            go_wp2
            have hb2 : ((w1.setCell ⟨w.heap.size, 0, none⟩ (.slice A vs.length c)).setCell ⟨w.heap.size, 1, none⟩ (.string u)).heap[w.heap.size]? = some (.cells #[.slice A vs.length c, .string u] 24 (0, 0)) := by
              have := kb_set (kb_set hP1.b0 0 (.slice A vs.length c)) 1 (.string u)
              simpa using this
            refine bodyPost_ret (results_ct rfl _ _ w.heap.size 24 #[.slice A vs.length c, .string u] (0, 0) _ rfl hb2 Tryd.underlying24 rfl (by kernel_rfl)) rfl ?_
            rw [HV.out]
            refine ⟨_, rfl, Kd.R_of_own (owns_base (owns_set (owns_set hP1.own (by omega) _ _) (by omega) _ _) (by omega)) (fun _ _ => trivial), ?_⟩
            exact (hP1.below.setCell (p := ⟨_, 0, none⟩) (Nat.le_refl _) _).setCell (p := ⟨_, 1, none⟩) (Nat.le_refl _) _
      | false =>
        have hnb : (false && u.toList.isEmpty) = false := rfl
        cases hbv : badV vs u with
        | true =>
          have HV : Aside0 (parseV s = badP) := ⟨by rw [hval, hbv, Bool.or_true, if_pos rfl]⟩
          have hk0 : chkV vs u = 170 := by unfold chkV; rw [hbv, if_pos rfl]
          rw [hk0] at hchk
          have HK := Aside0.mk hchk
          clear hchk hval hvl hvl2 hps hC hCC hk0 hbv
          go_wp2_with fail
          refine (HK.out.mono ?_)
          rintro e w1 ⟨rfl, hb1⟩
          have hP1 := hP.step hb1
          clear hb1
          have c0 : w1.cell? ⟨w.heap.size, 0, none⟩ = some (.slice none 0 0) := by rw [kb_cell_of hP1.b0 0]; rfl
          have c1 : w1.cell? ⟨w.heap.size, 1, none⟩ = some (.string ⟨#[]⟩) := by rw [kb_cell_of hP1.b0 1]; rfl
          have f0 : w1.frozen? ⟨w.heap.size, 0, none⟩ = false := kb_free_of hP1.b0 0
          have f1 : w1.frozen? ⟨w.heap.size, 1, none⟩ = false := kb_free_of hP1.b0 1
          go_wp2
          have hb2 : ((w1.setCell ⟨w.heap.size, 0, none⟩ (.slice none 0 0)).setCell ⟨w.heap.size, 1, none⟩ (.string ⟨#[]⟩)).heap[w.heap.size]? = some (.cells #[.slice none 0 0, .string ⟨#[]⟩] 24 (0, 0)) := by
            have := kb_set (kb_set hP1.b0 0 (.slice none 0 0)) 1 (.string ⟨#[]⟩)
            simpa using this
          refine bodyPost_ret (results_ct rfl _ _ w.heap.size 24 #[.slice none 0 0, .string ⟨#[]⟩] (0, 0) _ rfl hb2 Tryd.underlying24 rfl (by kernel_rfl)) rfl ?_
          rw [HV.out]
          refine ⟨_, rfl, Kd.R_of_own (World.ownsRow_nil _ _ _ _) (fun _ _ => trivial), ?_⟩
          exact (hP1.below.setCell (p := ⟨_, 0, none⟩) (Nat.le_refl _) _).setCell (p := ⟨_, 1, none⟩) (Nat.le_refl _) _
        | false =>
          have HV : Aside0 (parseV s = (vs, u, 0)) := ⟨by rw [hval, hbv, hnb, Bool.or_false, if_neg (by simp)]⟩
          have hk0 : chkV vs u = 0 := by unfold chkV; rw [hbv, if_neg (by simp)]
          rw [hk0] at hchk
          have HK := Aside0.mk hchk
          clear hchk hval hvl hvl2 hps hC hCC hk0 hbv hnb
          go_wp2_with fail
          refine (HK.out.mono ?_)
          rintro e w1 ⟨rfl, hb1⟩
          have hP1 := hP.step hb1
          clear hb1
          have c0 : w1.cell? ⟨w.heap.size, 0, none⟩ = some (.slice none 0 0) := by rw [kb_cell_of hP1.b0 0]; rfl
          have c1 : w1.cell? ⟨w.heap.size, 1, none⟩ = some (.string ⟨#[]⟩) := by rw [kb_cell_of hP1.b0 1]; rfl
          have d0 : w1.cell? ⟨w.heap.size + 1, 0, none⟩ = some (.slice A vs.length c) := by rw [kb_cell_of hP1.b1 0]; rfl
          have d1 : w1.cell? ⟨w.heap.size + 1, 1, none⟩ = some (.string u) := by rw [kb_cell_of hP1.b1 1]; rfl
          have f0 : w1.frozen? ⟨w.heap.size, 0, none⟩ = false := kb_free_of hP1.b0 0
          have f1 : w1.frozen? ⟨w.heap.size, 1, none⟩ = false := kb_free_of hP1.b0 1
          go_wp2
          have hb2 : ((w1.setCell ⟨w.heap.size, 0, none⟩ (.slice A vs.length c)).setCell ⟨w.heap.size, 1, none⟩ (.string u)).heap[w.heap.size]? = some (.cells #[.slice A vs.length c, .string u] 24 (0, 0)) := by
            have := kb_set (kb_set hP1.b0 0 (.slice A vs.length c)) 1 (.string u)
            simpa using this
          refine bodyPost_ret (results_ct rfl _ _ w.heap.size 24 #[.slice A vs.length c, .string u] (0, 0) _ rfl hb2 Tryd.underlying24 rfl (by kernel_rfl)) rfl ?_
          rw [HV.out]
          refine ⟨_, rfl, Kd.R_of_own (owns_base (owns_set (owns_set hP1.own (by omega) _ _) (by omega) _ _) (by omega)) (fun _ _ => trivial), ?_⟩
          exact (hP1.below.setCell (p := ⟨_, 0, none⟩) (Nat.le_refl _) _).setCell (p := ⟨_, 1, none⟩) (Nat.le_refl _) _
def version_Parse.f (a0 : ByteArray) : Option (List Int × ByteArray × Int) := if a0.size < 4294967281 then some (parseV a0) else none
theorem version_Parse.calls (a0 : ByteArray) (r1 : List Int) (r2 : ByteArray) (r3 : Int) (w : World) (h : version_Parse.f a0 = some (r1, r2, r3)) (hLD : Tabs w) :
    Calls Tryd.prog 17 #[.string a0] w fun e w' => ∃ v0_ : Value, e = .returned (.tuple #[.agg #[v0_, .string r2], .int .i64 r3]) ∧ Kd.R (Kd.int .i64) 3 w' w.heap.size (fun _ => True) v0_ r1 ∧ Below w.heap.size w w' := by
  unfold version_Parse.f at h
  split at h
  case isFalse => cases h
  rename_i hs
  have e := Option.some.inj h
  have := parse_calls a0 w hs hLD
  rw [e] at this
  exact this
def strconv_Itoa_25.f (a0 : Int) : Option ByteArray := if decide (-9223372036854775808 ≤ a0) && decide (a0 ≤ 9223372036854775807) then some (itoaS a0) else none
theorem strconv_Itoa_25.calls (a0 : Int) (r : ByteArray) (w : World) (h : strconv_Itoa_25.f a0 = some r) (hLD : Tabs w) :
    Calls Tryd.prog 25 #[.int .i64 a0] w fun e w' => e = .returned (.string r) ∧ Below w.heap.size w w' := by
  unfold strconv_Itoa_25.f at h
  split at h
  case isFalse => cases h
  rename_i hf
  obtain rfl := Option.some.inj h
  simp only [Bool.and_eq_true, decide_eq_true_eq] at hf
  exact itoa_calls a0 hf.1 hf.2 w hLD
end Go.Proofs.YtbikimkmkchkhaaDoor.PAll
end
