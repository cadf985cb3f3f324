/- path.Target. -/
import Derived.RangeFuncNested
import Derived.RangeFuncBound
import Derived.RangeFuncCalls
import Derived.RangeFuncLeaves
import Derived.RangeFuncBox
import Derived.Shelf.Abstract
import Derived.Shelf.RegionOpen
import Derived.WalkKit
import Derived.OwnWalkIn
import Derived.TacticsInMore
import Derived.LoopNIn
import Derived.LoopIn
import Derived.Maps.AppendAt
import Derived.Test.YtboefcnghngoaaaPart
import Derived.Outline
import Derived.Deep.QuietTactic
import Derived.BigQuiet
import Derived.WalkSpells
import Derived.Deep.DeepFit
import Derived.Lib.Hide
import Derived.Lib.IndexBytes
import Derived.Test.YtboefcnghngoaaaShelf
import Derived.Test.YtboefcnghngoaaaSpec
import Derived.Test.YtboefcnghngoaaaC
namespace Go.Proofs.Ytboefcnghngoaaa
open Go.RowKit Go.Shelf Go.Lib Sp
attribute [local go_sem] Oper.semAt_some

theorem info9 : (Try.prog.info? 9).map (fun i => (i.zero, i.size, i.bytes)) = some (some (.string ⟨#[]⟩), 1, 16) := by kernel_rfl
def strsOf (way : List ByteArray) : List Value := way.map .string
def bl (way : List ByteArray) : List (List UInt8) := way.map (·.data.toList)
theorem strsOf_length (way : List ByteArray) : (strsOf way).length = way.length := by simp [strsOf]
theorem strsOf_snoc (way : List ByteArray) (x : ByteArray) : strsOf (way ++ [x]) = strsOf way ++ [.string x] := by simp [strsOf]
theorem bl_snoc (way : List ByteArray) (x : ByteArray) : bl (way ++ [x]) = bl way ++ [x.data.toList] := by simp [bl]
theorem strsOf_cut (way : List ByteArray) (k : Nat) (h : way.length = k + 1) : (strsOf way).take (k * 1) = strsOf way.dropLast := by
  simp [strsOf, List.dropLast_eq_take, h]
theorem bl_dropLast (way : List ByteArray) : bl way.dropLast = (bl way).dropLast := by simp [bl]
theorem bl_nil (way : List ByteArray) : bl way = [] ↔ way = [] := by simp [bl]

/-- 'way[:len(way)-1:len(way)-1]'. -/
theorem slice_cut (g k c : Nat) (hk : k + 1 ≤ c) (W : World) :
    (Instr.slice 34 (.slice (some ⟨g, 0, none⟩) (k + 1) c) none (some (.int .i64 (k : Int))) (some (.int .i64 (k : Int)))).run Try.prog W = .ok (.slice (some ⟨g, 0, none⟩) k k) W := by
  rw [run_slice_hm (P := Try.prog) W 34 (some ⟨g, 0, none⟩) (k + 1) c Try.underlying34 .i64 .i64 (k : Int) (k : Int) (by omega) (by omega) (by omega)]
  have : Try.prog.elem 34 = 9 := by kernel_rfl
  rw [this, Try.sizeOf9]
  simp [sliced, Addr.add]

/-- strings.Join at a row of the call's own. -/
theorem join_part {W : World} {base : Nat} {v : Value} {way : List ByteArray} (h : ownsPart W base 9 1 v way.length (strsOf way)) (hl : wt (bl way) ≤ 140737488355328) :
    Calls Try.prog 36 #[v, .string ⟨#[47]⟩] W fun e w' => e = .returned (.string ⟨(Lib.join (bl way) [47]).toArray⟩) ∧ Below W.heap.size W w' := by
  rcases h.2 with ⟨rfl, hn⟩ | ⟨g, cap, cur, rfl, hb, hgg, h4, h5, h6, h7⟩
  · obtain rfl : way = [] := List.eq_nil_of_length_eq_zero hn
    exact (Try.strings_Join_none none 0 ⟨#[47]⟩ W).mono fun e w' ⟨a, b⟩ => ⟨a, b ▸ Below.refl _ _⟩
  · by_cases hn : way = []
    · subst hn
      exact (Try.strings_Join_none (some ⟨g, 0, none⟩) cap ⟨#[47]⟩ W).mono fun e w' ⟨a, b⟩ => ⟨a, b ▸ Below.refl _ _⟩
    · have h8 : way.length ≤ 140737488355328 := by have := length_wt (bl way); simp [bl] at this hl ⊢; omega
      refine (Try.strings_Join g 0 cap way ⟨#[47]⟩ W (fun j x hj => ?_) (Array.getElem?_eq_some_iff.1 hgg).1 h8 h4 (Nat.le_trans (join_wt _) hl)).mono fun e w' ⟨a, b⟩ => ⟨a, b⟩
      have := h.cells (g := g) rfl j (.string x) (by simp [strsOf, hj])
      have hadd : (⟨g, 0, none⟩ : Addr).add j = ⟨g, j, none⟩ := by unfold Addr.add; split <;> simp_all
      rw [hadd] at this
      rw [Nat.zero_add]; exact this

set_option maxRecDepth 100000 in
set_option maxHeartbeats 4000000 in
theorem target_abs (at' to : ByteArray) (hb : at'.size + to.size ≤ 1099511627776) (w : World) (ba : at'.toList.isEmpty = false) (bt : to.toList.isEmpty = false) (h0 : 0 < to.size) (hp : isPath at'.data.toList = true)
    (hh : ((to[0].toNat : Int) == 47) = true) (S : List (List UInt8)) (hS : S = []) (R : List UInt8 × Int)
    (hR : R = match walkWay S (texts to.data.toList) with | none => ([], 140) | some way => if 200 < (Lib.join way [47]).length then ([], 140) else (Lib.join way [47], 0)) (hwt : wt S ≤ at'.size + 1) :
    Calls Try.prog 15 #[.string at', .string to] w fun e w' => e = .returned (.tuple #[.string ⟨R.1.toArray⟩, .int .i64 R.2]) ∧ Below w.heap.size w w' := by
  obtain ⟨i0, hi, hz0, hz1, hz2⟩ := info_parts info9
  have hCk : ∀ W, Calls Try.prog 12 #[.string at'] W fun e w' => e = .returned (.int .i64 0) ∧ Below W.heap.size W w' := fun W => by
    have := check_calls at' (by omega) W
    rwa [if_pos hp] at this
  have hh2 : ((to[0].toNat : Int) != 47) = false := by rw [bne, hh]; rfl
  have HS := Lib.hid hS; clear hS
  have HR := Lib.hid hR; clear hR
  have HP := Lib.hid hp; clear hp
  refine (callsIn_wide (n := 3)).1 ?_
  refine callsIn_of_wp_marks Try.func15 rfl trivial ?_ rfl
  simp only [Try.ntmps15, List.size_toArray, List.length_cons, List.length_nil, Nat.reduceAdd, Nat.reduceSub, Array.replicate_succ, Array.replicate_zero, List.push_toArray, List.append_toArray, List.nil_append, List.cons_append]
  gi_wp2_with (first | (refine ⟨trivial, ?_⟩; gi_at_call 12; refine (callsIn_wide.2 (hCk _)).mono ?_; rintro e w1 ⟨rfl, hb1⟩) | (refine ⟨trivial, ?_⟩; gi_at_call 32; refine (parts_in _ _ _).mono ?_; rintro e w' ⟨rfl, rfl⟩))
  have b4 : Boxed ((w.alloc (.cells #[.string ⟨#[]⟩] 9)).alloc (.cells #[.int .i64 0] 22)) w.heap.size 9 (.string ⟨#[]⟩) := (Boxed.new w 9 (.string ⟨#[]⟩)).alloc _
  have b5 := Boxed.new (w.alloc (.cells #[.string ⟨#[]⟩] 9)) 22 (.int .i64 0)
  rw [World.size_alloc] at b5
  have hsz1 : w.heap.size + 2 ≤ w1.heap.size := by have := hb1.size; simp at this; omega
  replace b4 := boxed_below b4 hb1
  replace b5 := boxed_below b5 hb1
  have hB1 : Below w.heap.size w w1 := (((Below.refl _ w).alloc (Nat.le_refl _) _).alloc (by simp) _).trans (hb1.mono (by simp <;> omega))
  have bw := Boxed.new w1 34 (.slice none 0 0)
  have bn := Boxed.new (w1.alloc (.cells #[.slice none 0 0] 34)) 9 (.string to)
  rw [World.size_alloc] at bn
  replace bw := bw.alloc (.cells #[.string to] 9)
  replace b4 := (b4.alloc (.cells #[.slice none 0 0] 34)).alloc (.cells #[.string to] 9)
  replace b5 := (b5.alloc (.cells #[.slice none 0 0] 34)).alloc (.cells #[.string to] 9)
  have hB2 : Below w.heap.size w ((w1.alloc (.cells #[.slice none 0 0] 34)).alloc (.cells #[.string to] 9)) := (hB1.alloc hB1.size _).alloc (by simp <;> omega) _
  clear hb1 hB1
  obtain ⟨W2, hW2⟩ : ∃ W2, (w1.alloc (.cells #[.slice none 0 0] 34)).alloc (.cells #[.string to] 9) = W2 := ⟨_, rfl⟩
  have hsz2 : W2.heap.size = w1.heap.size + 2 := by rw [← hW2]; simp
  rw [hW2] at b4 b5 bw bn hB2 ⊢
  clear hW2
  obtain ⟨m1, hm1⟩ : ∃ m1, w1.heap.size = m1 := ⟨_, rfl⟩
  rw [hm1] at hsz1 hsz2 bw bn
  simp only [hm1]
  clear hm1 w1
  have hbase : w.heap.size + 2 ≤ W2.heap.size := by omega
  refine' wpIn_rangeFunc_ownF (n := 3) rfl (by decide) (gf := 42) (lb := #[.pointer (some ⟨m1 + 1, 0, none⟩)]) rfl trivial (enters_of Try.func42 (by kernel_rfl) rfl)
    (parts_stops to (by omega) 2 (by omega) (m1 + 1) _ bn) KeepB.trans (KeepB.put bn.lt) (Below.refl _ _) (fun _ => rfl)
    (fun pre W => ((∃ v way, Boxed W m1 34 v ∧ ownsPart W (w.heap.size + 2) 9 1 v way.length (strsOf way) ∧ some (m1 + 1) ≠ v.ownBlock ∧ walkWay S (pre.map (seg to)) = some (bl way) ∧ way.length ≤ 0 + pre.length) ∧ Boxed W w.heap.size 9 (.string ⟨#[]⟩) ∧ Boxed W (w.heap.size + 1) 22 (.int .i64 0) ∧ Boxed W (m1 + 1) 9 (.string to) ∧ True) ∧ Below w.heap.size w W)
    (fun c pre W => (c = .ret ∧ walkWay S (pre.map (seg to)) = none ∧ Boxed W w.heap.size 9 (.string ⟨#[]⟩) ∧ Boxed W (w.heap.size + 1) 22 (.int .i64 140) ∧ True) ∧ Below w.heap.size w W)
    (OwnFrom.and (fun s A B row hs hg hr => by
      obtain ⟨⟨v, way, h1, h2, h3⟩, h6, h7, h8, h9⟩ := hs
      have hr2 := fun r e => (hr r e).2
      exact ⟨⟨v, way, boxed_own h1 hg hr2, part_own h2 hg hr2, h3⟩, boxed_own h6 hg hr2, boxed_own h7 hg hr2, boxed_own h8 hg hr2, trivial⟩) (ownFrom_below (Nat.le_refl _) (by have := hB2.size; omega)))
    (fun c => OwnFrom.and (fun s A B row hs hg hr => by
      obtain ⟨h1, h2, h6, h7, h9⟩ := hs
      have hr2 := fun r e => (hr r e).2
      exact ⟨h1, h2, boxed_own h6 hg hr2, boxed_own h7 hg hr2, trivial⟩) (ownFrom_below (Nat.le_refl _) (by have := hB2.size; omega)))
    ⟨⟨⟨.slice none 0 0, [], bw, ownsPart.nil _ _ _ _, by simp [Value.ownBlock], by rw [HS.out]; rfl, by simp⟩, b4, b5, bn, trivial⟩, hB2⟩
    _ ?assign2 ?body2 ?done2 ?stop2
  case assign2 =>
    intro l x W K hK
    dsimp only [encSpan]
    gi_wp2
    exact hK
  case body2 =>
    rintro l pre x W ⟨⟨⟨v, way, hv, hrow, hne, hwk, hlen⟩, h4, h5, hn, hD⟩, hB⟩ hlt
    have hx : (to.extract x.1.1 x.1.2).data.toList = seg to x := Lib.extract_data _ _ _
    rw [← toList_data] at hx
    have hwk' : walkWay S ((pre ++ [x]).map (seg to)) = stepWay (bl way) (seg to x) := by rw [List.map_append, List.map_cons, List.map_nil, walkWay_snoc, hwk]; rfl
    have hpl : pre.length ≤ to.size := by have := spans_length to.data.toList 0; have h9 := length_wt ((parts 0 to.data.toList).map (·.2)); rw [wt_parts] at h9; have := Lib.size_eq to; simp at h9; omega
    obtain ⟨X, hX⟩ : ∃ X, to.extract x.1.1 x.1.2 = X := ⟨_, rfl⟩
    rw [hX] at hx
    try dsimp only
    simp only [hX]
    have hN : ∀ W, Calls Try.prog 33 #[.string X] W fun e w' => e = .returned (.bool (isName (seg to x))) ∧ Below W.heap.size W w' := fun W => by
      have := named_calls X W
      rwa [← toList_data, hx] at this
    have HWK := Lib.hid hwk'; clear hwk' hwk
    have hc := hv.cell; have hf := hv.frozen; have hc4 := h4.cell; have hf4 := h4.frozen; have hc5 := h5.cell; have hf5 := h5.frozen
    have hmB : m1 < W.heap.size := hv.lt
    have hnB : m1 + 1 < W.heap.size := hn.lt
    clear hX
    by_cases e1 : seg to x = []
    · have t1 : X.toList.isEmpty = true := by simp [hx, e1]
      rw [e1] at hx
      have HX := Lib.hid hx; clear hx
      have hs : stepWay (bl way) (seg to x) = some (bl way) := by unfold stepWay; rw [if_pos (.inl e1)]
      have H1 := Lib.hid hs; clear hs e1
      gi_wp2
      exact ⟨KeepsOthers.refl _, KeepB.refl _ _, ⟨⟨v, way, hv, hrow, hne, HWK.out.trans H1.out, by simp; omega⟩, h4, h5, hn, hD⟩, hB⟩
    have t1 : X.toList.isEmpty = false := by rw [hx]; cases hq : seg to x with | nil => exact absurd hq e1 | cons => rfl
    by_cases e2 : seg to x = [46]
    · have t2 : (X.toList == [46]) = true := by rw [hx, e2]; rfl
      have HX := Lib.hid hx; clear hx
      have hs : stepWay (bl way) (seg to x) = some (bl way) := by unfold stepWay; rw [if_pos (.inr e2)]
      have H1 := Lib.hid hs; clear hs e1 e2
      gi_wp2
      exact ⟨KeepsOthers.refl _, KeepB.refl _ _, ⟨⟨v, way, hv, hrow, hne, HWK.out.trans H1.out, by simp; omega⟩, h4, h5, hn, hD⟩, hB⟩
    have t2 : (X.toList == [46]) = false := by rw [hx]; simpa using e2
    by_cases e3 : seg to x = [46, 46] ∧ way ≠ []
    · obtain ⟨e3, e4⟩ := e3
      have t3 : (X.toList == [46, 46]) = true := by rw [hx, e3]; rfl
      have hs : stepWay (bl way) (seg to x) = some (bl way.dropLast) := by unfold stepWay; rw [if_neg (by simp [e1, e2]), if_pos ⟨e3, fun h => e4 ((bl_nil _).1 h)⟩, bl_dropLast]
      obtain ⟨k, hk⟩ : ∃ k, way.length = k + 1 := ⟨way.length - 1, by have := List.length_pos_iff.2 e4; omega⟩
      rw [hk] at hrow
      have hrow' := hrow
      obtain ⟨g, cap, rfl⟩ := part_succ hrow
      have hcap : k + 1 ≤ cap := by rcases hrow.2 with ⟨h, _⟩ | ⟨g', cap', cur', h, _, _, h4', _⟩; (cases h); (cases h; exact h4')
      have hcut := hrow.cut (k := k) (by omega) rfl
      rw [strsOf_cut way k hk] at hcut
      have hsl := slice_cut g k cap hcap
      have hk2 : way.dropLast.length = k := by simp [hk]
      have hkb : (k : Int) ≤ 4611686018427387904 := by omega
      have q1 : IntKind.i64.wrap (((k + 1 : Nat) : Int) - 1) = (k : Int) := by rw [IntWalk.i64_in _ (by omega)]; omega
      have H1 := Lib.hid hs; have HX := Lib.hid hx; have HK := Lib.hid hk; have HK2 := Lib.hid hk2; clear hs hx hk hk2 e1 e2 e3 e4
      gi_wp2
      have hv2 := hv.set (.slice (some ⟨g, 0, none⟩) k k)
      refine ⟨KeepsOthers.setCell _ _ _, KeepB.set _ _ (by simp <;> omega), ⟨⟨_, way.dropLast, hv2, by rw [HK2.out]; exact hcut.kept (grownBy_setCell' _ _ _) (.inr (not_part hv (by decide) hcut).symm), hne, HWK.out.trans H1.out, by rw [HK2.out]; have := HK.out; simp; omega⟩, h4.kept (grownBy_setCell' _ _ _) (by simp <;> omega), h5.kept (grownBy_setCell' _ _ _) (by simp <;> omega), hn.kept (grownBy_setCell' _ _ _) (by simp <;> omega), trivial⟩, hB.setCell (p := ⟨m1, 0, none⟩) (by simp <;> omega) _⟩
    cases e4 : isName (seg to x) with
    | false =>
      have hs : stepWay (bl way) (seg to x) = none := by unfold stepWay; rw [if_neg (by simp [e1, e2]), if_neg (by rintro ⟨h1, h2⟩; exact e3 ⟨h1, fun h => h2 ((bl_nil _).2 h)⟩), if_neg (by simp [e4])]
      rw [e4] at hN
      obtain ⟨a, c, rfl⟩ : ∃ a c, v = .slice a way.length c := by rcases hrow.2 with ⟨h, h'⟩ | ⟨g', cap', cur', h, _⟩; (exact ⟨none, 0, by rw [h, h']⟩); (exact ⟨_, _, h⟩)
      by_cases e5 : seg to x = [46, 46]
      · have t3 : (X.toList == [46, 46]) = true := by rw [hx, e5]; rfl
        have hw0 : way.length = 0 := by rw [List.length_eq_zero_iff]; exact Classical.not_not.1 fun h => e3 ⟨e5, h⟩
        rw [hw0] at hc
        have H1 := Lib.hid hs; have HX := Lib.hid hx; clear hs hx e1 e2 e3 e4 e5 hw0
        gi_wp2_with (refine ⟨trivial, ?_⟩; gi_at_call 33; refine (CallsIn.inRound l (callsIn_wide.2 (hN _))).mono ?_; rintro e w' ⟨rfl, hb'⟩; have k4 := boxed_below h4 hb'; have k5 := boxed_below h5 hb'; have kc4 := k4.cell; have kf4 := k4.frozen; have kc5 := k5.cell; have kf5 := k5.frozen)
        exact ⟨((others_below hb').trans (KeepsOthers.setCell _ _ _)).trans (KeepsOthers.setCell _ _ _), ⟨rfl, HWK.out.trans H1.out, (k4.set _).kept (grownBy_setCell' _ _ _) (by simp), (k5.kept (grownBy_setCell' _ _ _) (by simp)).set _, trivial⟩, ((hB.trans (hb'.mono hB.size)).setCell (p := ⟨w.heap.size, 0, none⟩) (Nat.le_refl _) _).setCell (p := ⟨w.heap.size + 1, 0, none⟩) (by simp) _⟩
      · have t3 : (X.toList == [46, 46]) = false := by rw [hx]; simpa using e5
        have H1 := Lib.hid hs; have HX := Lib.hid hx; clear hs hx e1 e2 e3 e4 e5
        gi_wp2_with (refine ⟨trivial, ?_⟩; gi_at_call 33; refine (CallsIn.inRound l (callsIn_wide.2 (hN _))).mono ?_; rintro e w' ⟨rfl, hb'⟩; have k4 := boxed_below h4 hb'; have k5 := boxed_below h5 hb'; have kc4 := k4.cell; have kf4 := k4.frozen; have kc5 := k5.cell; have kf5 := k5.frozen)
        exact ⟨((others_below hb').trans (KeepsOthers.setCell _ _ _)).trans (KeepsOthers.setCell _ _ _), ⟨rfl, HWK.out.trans H1.out, (k4.set _).kept (grownBy_setCell' _ _ _) (by simp), (k5.kept (grownBy_setCell' _ _ _) (by simp)).set _, trivial⟩, ((hB.trans (hb'.mono hB.size)).setCell (p := ⟨w.heap.size, 0, none⟩) (Nat.le_refl _) _).setCell (p := ⟨w.heap.size + 1, 0, none⟩) (by simp) _⟩
    | true =>
      have e5 : seg to x ≠ [46, 46] := fun h => by rw [h] at e4; revert e4; decide
      have t3 : (X.toList == [46, 46]) = false := by rw [hx]; simpa using e5
      have hs : stepWay (bl way) (seg to x) = some (bl (way ++ [X])) := by unfold stepWay; rw [if_neg (by simp [e1, e2]), if_neg (fun h => e5 h.1), if_pos e4, bl_snoc, ← toList_data, hx]
      rw [e4] at hN
      have H1 := Lib.hid hs; have HX := Lib.hid hx; clear hs hx e1 e2 e3 e4 e5
      have hbsz := hB.size
      gi_wp2_with (first | (refine ⟨trivial, ?_⟩; gi_at_call 33; refine (CallsIn.inRound l (callsIn_wide.2 (hN _))).mono ?_; rintro e w' ⟨rfl, hb'⟩; have kv := boxed_below hv hb'; have kc := kv.cell; have kf := kv.frozen; have krow := hrow.below hb'; have k4 := boxed_below h4 hb'; have k5 := boxed_below h5 hb'; have kn := boxed_below hn hb'; have hsz' := hb'.size) | (gi_at_builtin; refine wpListIn_append_part _ rfl _ _ 34 rfl (w.heap.size + 2) 9 i0 (.string ⟨#[]⟩) 1 16 Try.underlying34 hi hz0 hz1 hz2 rfl (by decide) _ _ _ rfl (krow.alloc _) ⟨w'.heap.size, 0, none⟩ 1 1 [.string X] rfl rfl (cell_one_new _ _ _) (by simp [Value.oneCell']) (by unfold maxLen; omega) (by omega) (by simp <;> omega) ?_; intro v' w3 hown' hgrow hat; obtain ⟨g', cap', rfl⟩ := part_succ hown'; obtain ⟨hv1, hv2, hr2, hk2, hb2, hoth⟩ := part_appended (n₀ := w.heap.size) kv (by decide) krow (by omega) (by omega) (by omega) hown' hgrow; have hc1 := hv1.cell; have hf1 := hv1.frozen))
      have h4' : some w.heap.size ≠ v.ownBlock := fun e => by have := (hrow.lt _ e.symm).1; omega
      have h5' : some (w.heap.size + 1) ≠ v.ownBlock := fun e => by have := (hrow.lt _ e.symm).1; omega
      have hnn := hoth kn hne (by omega)
      have hne' : some (m1 + 1) ≠ (Value.slice (some ⟨g', 0, none⟩) (way.length + 1) cap').ownBlock := by
        rcases hat with h | ⟨b, h, hle⟩
        · rw [h]; exact hne
        · rw [h]; intro e; cases e; simp at hle; omega
      refine ⟨(others_below hb').trans hk2, KeepB.trans (KeepB.of_below hb' hnB) (Eq.trans hnn kn.symm), ⟨⟨_, way ++ [X], hv2, by rw [strsOf_snoc]; simpa using hr2, by simpa using hne', HWK.out.trans H1.out, by simp; omega⟩, hoth k4 h4' (by omega), hoth k5 h5' (by omega), hnn, trivial⟩, (hB.trans (hb'.mono hB.size)).trans hb2⟩
  case done2 =>
    rintro D ys W hD' hys ⟨⟨⟨v, way, hv, hrow, hne, hwk, hlen⟩, h4, h5, hn, hD⟩, hB⟩ hK
    rw [seg_texts to ys hys] at hwk
    have hw2 := wt_walk hwk
    rw [wt_texts] at hw2
    have hsz := Lib.size_eq to
    have hJ := join_part hrow (by omega)
    have HR1 : R = if 200 < (Lib.join (bl way) [47]).length then ([], 140) else (Lib.join (bl way) [47], 0) := by rw [HR.out, hwk]
    obtain ⟨p, hp⟩ : ∃ p : ByteArray, p = ⟨(Lib.join (bl way) [47]).toArray⟩ := ⟨_, rfl⟩
    have hps : p.size = (Lib.join (bl way) [47]).length := by rw [hp]; rfl
    rw [← hp] at hJ
    have hc := hv.cell
    have HP2 := Lib.hid hp; have HW2 := Lib.hid hwk; have HSZ := Lib.hid hsz; clear hp hwk hsz HR
    by_cases hbig : 200 < p.size
    · rw [if_pos (by omega)] at HR1
      have u1 : decide ((200 : Int) < (p.size : Int)) = true := decide_eq_true (by omega)
      have HRR := Lib.hid HR1; have HPS := Lib.hid hps; clear HR1 hps hbig
      gi_wp2_with (refine ⟨trivial, ?_⟩; gi_at_call 36; refine (callsIn_wide.2 hJ).mono ?_; rintro e w' ⟨rfl, hb'⟩; have k4 := boxed_below h4 hb'; have k5 := boxed_below h5 hb'; have kc4 := k4.cell; have kf4 := k4.frozen; have kc5 := k5.cell; have kf5 := k5.frozen)
      have kk := ((others_below hb').trans (KeepsOthers.setCell _ ⟨w.heap.size, 0, none⟩ (.string ⟨#[]⟩))).trans (KeepsOthers.setCell _ ⟨w.heap.size + 1, 0, none⟩ (.int .i64 140))
      have hK' := kk.same _ _ hK rfl
      have k4' := (k4.set (.string ⟨#[]⟩)).kept (grownBy_setCell' _ (w.heap.size + 1) (.int .i64 140)) (by simp)
      have k5' := (k5.kept (grownBy_setCell' _ w.heap.size (.string ⟨#[]⟩)) (by simp)).set (.int .i64 140)
      have hBB := ((hB.trans (hb'.mono hB.size)).setCell (p := ⟨w.heap.size, 0, none⟩) (Nat.le_refl _) (.string ⟨#[]⟩)).setCell (p := ⟨w.heap.size + 1, 0, none⟩) (by simp) (.int .i64 140)
      refine ⟨by simp, .inl ⟨_, _, rfl, run_takeDeferred hK', ?_⟩⟩
      have c4 := boxed_own k4' (grownBy_putObj' _ D (.deferred none)) (fun r e => by cases e; exact ⟨_, hK', rfl⟩)
      have c5 := boxed_own k5' (grownBy_putObj' _ D (.deferred none)) (fun r e => by cases e; exact ⟨_, hK', rfl⟩)
      have hBD := hBB.trans (belowK_b (w := w) (Nat.le_refl _) _ D (.deferred (some [])) (.deferred none) (by have := hB2.size; omega) hK' rfl rfl)
      have e4 := c4.cell; have e5 := c5.cell
      refine ⟨.tuple #[.string ⟨#[]⟩, .int .i64 140], ?_, by rw [HRR.out], hBD⟩
      simp [results, Try.f15, go_sem, e4, e5]
    · rw [if_neg (by omega)] at HR1
      have u1 : decide ((200 : Int) < (p.size : Int)) = false := decide_eq_false (by omega)
      have HRR := Lib.hid HR1; have HPS := Lib.hid hps; clear HR1 hps hbig
      gi_wp2_with (refine ⟨trivial, ?_⟩; gi_at_call 36; refine (callsIn_wide.2 hJ).mono ?_; rintro e w' ⟨rfl, hb'⟩; have k4 := boxed_below h4 hb'; have k5 := boxed_below h5 hb'; have kc4 := k4.cell; have kf4 := k4.frozen; have kc5 := k5.cell; have kf5 := k5.frozen)
      have kk := ((others_below hb').trans (KeepsOthers.setCell _ ⟨w.heap.size, 0, none⟩ (.string p))).trans (KeepsOthers.setCell _ ⟨w.heap.size + 1, 0, none⟩ (.int .i64 0))
      have hK' := kk.same _ _ hK rfl
      have k4' := (k4.set (.string p)).kept (grownBy_setCell' _ (w.heap.size + 1) (.int .i64 0)) (by simp)
      have k5' := (k5.kept (grownBy_setCell' _ w.heap.size (.string p)) (by simp)).set (.int .i64 0)
      have hBB := ((hB.trans (hb'.mono hB.size)).setCell (p := ⟨w.heap.size, 0, none⟩) (Nat.le_refl _) (.string p)).setCell (p := ⟨w.heap.size + 1, 0, none⟩) (by simp) (.int .i64 0)
      refine ⟨by simp, .inl ⟨_, _, rfl, run_takeDeferred hK', ?_⟩⟩
      have c4 := boxed_own k4' (grownBy_putObj' _ D (.deferred none)) (fun r e => by cases e; exact ⟨_, hK', rfl⟩)
      have c5 := boxed_own k5' (grownBy_putObj' _ D (.deferred none)) (fun r e => by cases e; exact ⟨_, hK', rfl⟩)
      have hBD := hBB.trans (belowK_b (w := w) (Nat.le_refl _) _ D (.deferred (some [])) (.deferred none) (by have := hB2.size; omega) hK' rfl rfl)
      have e4 := c4.cell; have e5 := c5.cell
      refine ⟨.tuple #[.string p, .int .i64 0], ?_, by rw [HRR.out, HP2.out], hBD⟩
      simp [results, Try.f15, go_sem, e4, e5]
  case stop2 =>
    rintro D c pre W hD' hpre ⟨⟨rfl, hnone, k4', k5', hD⟩, hBB⟩ hK'
    have hRR : R = ([], 140) := by
      obtain ⟨rest, hrest⟩ := seg_prefix to pre hpre
      rw [HR.out, ← hrest, walkWay_append, hnone]; rfl
    have HRR := Lib.hid hRR; clear hRR HR
    gi_wp2
    refine ⟨by simp, .inl ⟨_, _, rfl, run_takeDeferred hK', ?_⟩⟩
    have c4 := boxed_own k4' (grownBy_putObj' _ D (.deferred none)) (fun r e => by cases e; exact ⟨_, hK', rfl⟩)
    have c5 := boxed_own k5' (grownBy_putObj' _ D (.deferred none)) (fun r e => by cases e; exact ⟨_, hK', rfl⟩)
    have hBD := hBB.trans (belowK_b (w := w) (Nat.le_refl _) _ D (.deferred (some [])) (.deferred none) (by have := hB2.size; omega) hK' rfl rfl)
    have e4 := c4.cell; have e5 := c5.cell
    refine ⟨.tuple #[.string ⟨#[]⟩, .int .i64 140], ?_, by rw [HRR.out], hBD⟩
    simp [results, Try.f15, go_sem, e4, e5]

set_option maxRecDepth 100000 in
set_option maxHeartbeats 4000000 in
theorem target_rel (at' to : ByteArray) (hb : at'.size + to.size ≤ 1099511627776) (w : World) (ba : at'.toList.isEmpty = false) (bt : to.toList.isEmpty = false) (h0 : 0 < to.size) (hp : isPath at'.data.toList = true)
    (hh : ((to[0].toNat : Int) == 47) = false) (S : List (List UInt8)) (hS : S = (texts at'.data.toList).dropLast) (R : List UInt8 × Int)
    (hR : R = match walkWay S (texts to.data.toList) with | none => ([], 140) | some way => if 200 < (Lib.join way [47]).length then ([], 140) else (Lib.join way [47], 0)) (hwt : wt S ≤ at'.size + 1) :
    Calls Try.prog 15 #[.string at', .string to] w fun e w' => e = .returned (.tuple #[.string ⟨R.1.toArray⟩, .int .i64 R.2]) ∧ Below w.heap.size w w' := by
  obtain ⟨i0, hi, hz0, hz1, hz2⟩ := info_parts info9
  have hCk : ∀ W, Calls Try.prog 12 #[.string at'] W fun e w' => e = .returned (.int .i64 0) ∧ Below W.heap.size W w' := fun W => by
    have := check_calls at' (by omega) W
    rwa [if_pos hp] at this
  have hh2 : ((to[0].toNat : Int) != 47) = true := by rw [bne, hh]; rfl
  have HS := Lib.hid hS; clear hS
  have HR := Lib.hid hR; clear hR
  have HP := Lib.hid hp; clear hp
  refine (callsIn_wide (n := 3)).1 ?_
  refine callsIn_of_wp_marks Try.func15 rfl trivial ?_ rfl
  simp only [Try.ntmps15, List.size_toArray, List.length_cons, List.length_nil, Nat.reduceAdd, Nat.reduceSub, Array.replicate_succ, Array.replicate_zero, List.push_toArray, List.append_toArray, List.nil_append, List.cons_append]
  gi_wp2_with (first | (refine ⟨trivial, ?_⟩; gi_at_call 12; refine (callsIn_wide.2 (hCk _)).mono ?_; rintro e w1 ⟨rfl, hb1⟩) | (refine ⟨trivial, ?_⟩; gi_at_call 32; refine (parts_in _ _ _).mono ?_; rintro e w' ⟨rfl, rfl⟩))
  have b4 : Boxed ((w.alloc (.cells #[.string ⟨#[]⟩] 9)).alloc (.cells #[.int .i64 0] 22)) w.heap.size 9 (.string ⟨#[]⟩) := (Boxed.new w 9 (.string ⟨#[]⟩)).alloc _
  have b5 := Boxed.new (w.alloc (.cells #[.string ⟨#[]⟩] 9)) 22 (.int .i64 0)
  rw [World.size_alloc] at b5
  have hsz1 : w.heap.size + 2 ≤ w1.heap.size := by have := hb1.size; simp at this; omega
  replace b4 := boxed_below b4 hb1
  replace b5 := boxed_below b5 hb1
  have hB1 : Below w.heap.size w w1 := (((Below.refl _ w).alloc (Nat.le_refl _) _).alloc (by simp) _).trans (hb1.mono (by simp <;> omega))
  have bw := Boxed.new w1 34 (.slice none 0 0)
  have bn := Boxed.new (w1.alloc (.cells #[.slice none 0 0] 34)) 9 (.string at')
  rw [World.size_alloc] at bn
  replace bw := bw.alloc (.cells #[.string at'] 9)
  replace b4 := (b4.alloc (.cells #[.slice none 0 0] 34)).alloc (.cells #[.string at'] 9)
  replace b5 := (b5.alloc (.cells #[.slice none 0 0] 34)).alloc (.cells #[.string at'] 9)
  have hB2 : Below w.heap.size w ((w1.alloc (.cells #[.slice none 0 0] 34)).alloc (.cells #[.string at'] 9)) := (hB1.alloc hB1.size _).alloc (by simp <;> omega) _
  clear hb1 hB1
  obtain ⟨W2, hW2⟩ : ∃ W2, (w1.alloc (.cells #[.slice none 0 0] 34)).alloc (.cells #[.string at'] 9) = W2 := ⟨_, rfl⟩
  have hsz2 : W2.heap.size = w1.heap.size + 2 := by rw [← hW2]; simp
  rw [hW2] at b4 b5 bw bn hB2 ⊢
  clear hW2
  obtain ⟨m1, hm1⟩ : ∃ m1, w1.heap.size = m1 := ⟨_, rfl⟩
  rw [hm1] at hsz1 hsz2 bw bn
  simp only [hm1]
  clear hm1 w1
  refine' wpIn_rangeFunc_ownF (n := 3) rfl (by decide) (gf := 42) (lb := #[.pointer (some ⟨m1 + 1, 0, none⟩)]) rfl trivial (enters_of Try.func42 (by kernel_rfl) rfl)
    (parts_stops at' (by omega) 2 (by omega) (m1 + 1) _ bn) KeepB.trans (KeepB.put bn.lt) (Below.refl _ _) (fun _ => rfl)
    (fun pre W => ((∃ v, Boxed W m1 34 v ∧ ownsPart W (m1 + 2) 9 1 v pre.length (strsOf (pre.map fun x => at'.extract x.1.1 x.1.2))) ∧ Boxed W w.heap.size 9 (.string ⟨#[]⟩) ∧ Boxed W (w.heap.size + 1) 22 (.int .i64 0) ∧ Boxed W (m1 + 1) 9 (.string at')) ∧ Below w.heap.size w W)
    (fun _ _ _ => False)
    (OwnFrom.and (Own.from (fun s A B row hs hg hr => by
      obtain ⟨⟨v, h1, h2⟩, h6, h7, h8⟩ := hs
      exact ⟨⟨v, boxed_own h1 hg hr, part_own h2 hg hr⟩, boxed_own h6 hg hr, boxed_own h7 hg hr, boxed_own h8 hg hr⟩) _) (ownFrom_below (Nat.le_refl _) (by have := hB2.size; omega)))
    (fun _ _ _ _ _ hs _ _ => hs)
    ⟨⟨⟨_, bw, ownsPart.nil _ _ _ _⟩, b4, b5, bn⟩, hB2⟩
    _ ?assign ?body ?done ?stop
  case assign =>
    intro l x W K hK
    dsimp only [encSpan]
    gi_wp2
    exact hK
  case body =>
    rintro l pre x W ⟨⟨⟨v, hv, hrow⟩, h4, h5, hn⟩, hB⟩ hlt
    have hpl : pre.length ≤ at'.size := by have := spans_length at'.data.toList 0; have h9 := length_wt ((parts 0 at'.data.toList).map (·.2)); rw [wt_parts] at h9; have := Lib.size_eq at'; simp at h9; omega
    obtain ⟨X, hX⟩ : ∃ X, at'.extract x.1.1 x.1.2 = X := ⟨_, rfl⟩
    have hst : strsOf ((pre ++ [x]).map fun x => at'.extract x.1.1 x.1.2) = strsOf (pre.map fun x => at'.extract x.1.1 x.1.2) ++ [.string X] := by rw [List.map_append, ← hX]; exact strsOf_snoc _ _
    try dsimp only
    simp only [hX]
    have HST := Lib.hid hst; clear hst hX
    have hc := hv.cell; have hf := hv.frozen
    have hbsz := hB.size
    have hnB : m1 + 1 < W.heap.size := hn.lt
    gi_wp2_with (gi_at_builtin; refine wpListIn_append_part _ rfl _ _ 34 rfl (m1 + 2) 9 i0 (.string ⟨#[]⟩) 1 16 Try.underlying34 hi hz0 hz1 hz2 rfl (by decide) _ _ _ rfl (hrow.alloc _) ⟨W.heap.size, 0, none⟩ 1 1 [.string X] rfl rfl (cell_one_new _ _ _) (by simp [Value.oneCell']) (by unfold maxLen; omega) (by omega) (by simp <;> omega) ?_; intro v' w3 hown' hgrow hat; obtain ⟨g', cap', rfl⟩ := part_succ hown'; obtain ⟨hv1, hv2, hr2, hk2, hb2, hoth⟩ := part_appended (n₀ := w.heap.size) hv (by decide) hrow (by omega) (by omega) (by omega) hown' hgrow; have hc1 := hv1.cell; have hf1 := hv1.frozen)
    have far : ∀ B', B' < m1 + 2 → some B' ≠ v.ownBlock := fun B' h e => by have := (hrow.lt _ e.symm).1; omega
    have hnn := hoth hn (far _ (by omega)) (by omega)
    exact ⟨hk2, Eq.trans hnn hn.symm, ⟨⟨_, hv2, by rw [HST.out]; simpa using hr2⟩, hoth h4 (far _ (by omega)) (by omega), hoth h5 (far _ (by omega)) (by omega), hnn⟩, hB.trans hb2⟩
  case stop =>
    rintro D c pre W _ _ h _
    exact h.elim
  case done =>
    rintro D1 ys W hD' hys ⟨⟨⟨v, hv, hrow⟩, h4, h5, hn⟩, hB⟩ hK
    have hst := seg_texts at' ys hys
    have hbl : bl (ys.map fun x => at'.extract x.1.1 x.1.2) = texts at'.data.toList := by rw [← hst]; simp [bl, seg]
    obtain ⟨way, hway⟩ : ∃ way, (ys.map fun x => at'.extract x.1.1 x.1.2) = way := ⟨_, rfl⟩
    have hyl : ys.length = way.length := by rw [← hway]; simp
    rw [hway, hyl] at hrow
    rw [hway] at hbl
    have htn : texts at'.data.toList ≠ [] := by unfold texts; simp [parts_ne]
    have hwn : way ≠ [] := fun h => by rw [h] at hbl; exact htn hbl.symm
    obtain ⟨k, hk⟩ : ∃ k, way.length = k + 1 := ⟨way.length - 1, by have := List.length_pos_iff.2 hwn; omega⟩
    have hwl : way.length ≤ at'.size + 1 := by
      have h9 := length_wt (bl way)
      have h8 : wt (bl way) = at'.data.toList.length + 1 := by rw [hbl, wt_texts]
      have h7 : (bl way).length = way.length := by simp [bl]
      have := Lib.size_eq at'
      omega
    rw [hk] at hrow
    obtain ⟨g, cap, rfl⟩ := part_succ hrow
    have hcap : k + 1 ≤ cap := by rcases hrow.2 with ⟨h, _⟩ | ⟨g', cap', cur', h, _, _, h4', _⟩; (cases h); (cases h; exact h4')
    have hcut := hrow.cut (k := k) (by omega) rfl
    rw [strsOf_cut way k hk] at hcut
    have hsl := slice_cut g k cap hcap
    have hk2 : way.dropLast.length = k := by simp [hk]
    have hkb : (k : Int) ≤ 4611686018427387904 := by omega
    have q1 : IntKind.i64.wrap (((k + 1 : Nat) : Int) - 1) = (k : Int) := by rw [IntWalk.i64_in _ (by omega)]; omega
    have hSb : S = bl way.dropLast := by rw [HS.out, bl_dropLast, hbl]
    have HSB := Lib.hid hSb; have HK2 := Lib.hid hk2; clear hSb hk2 hbl htn hwn hst hys hway hyl
    have HKK := Lib.hid hk; clear hk
    have hc := hv.cell; have hf := hv.frozen
    gi_wp2_with (refine ⟨trivial, ?_⟩; gi_at_call 32; refine (parts_in _ _ _).mono ?_; rintro e w' ⟨rfl, rfl⟩)
    clear bw bn b4 b5 hB2
    have bw := (hv.set (.slice (some ⟨g, 0, none⟩) k k)).alloc (.cells #[.string to] 9)
    have bn := Boxed.new (W.setCell ⟨m1, 0, none⟩ (.slice (some ⟨g, 0, none⟩) k k)) 9 (.string to)
    have b4 := (h4.kept (grownBy_setCell' W m1 (.slice (some ⟨g, 0, none⟩) k k)) (by simp <;> omega)).alloc (.cells #[.string to] 9)
    have b5 := (h5.kept (grownBy_setCell' W m1 (.slice (some ⟨g, 0, none⟩) k k)) (by simp <;> omega)).alloc (.cells #[.string to] 9)
    have hrow2 := (hcut.kept (grownBy_setCell' W m1 (.slice (some ⟨g, 0, none⟩) k k)) (.inr (not_part hv (by decide) hcut).symm)).alloc (.cells #[.string to] 9)
    have hsS : (W.setCell ⟨m1, 0, none⟩ (.slice (some ⟨g, 0, none⟩) k k)).heap.size = W.heap.size := by simp
    have hB2 := (hB.setCell (p := ⟨m1, 0, none⟩) (by simp <;> omega) (.slice (some ⟨g, 0, none⟩) k k)).alloc (by rw [hsS]; exact hB.size) (.cells #[.string to] 9)
    have hD1 := (Below.heap_alloc (W.setCell ⟨m1, 0, none⟩ (.slice (some ⟨g, 0, none⟩) k k)) (.cells #[.string to] 9) D1 (by rw [hsS]; exact (Array.getElem?_eq_some_iff.1 hK).1)).trans ((KeepsOthers.setCell W ⟨m1, 0, none⟩ (.slice (some ⟨g, 0, none⟩) k k)).same _ _ hK rfl)
    have hgW := (hcut.lt g rfl)
    rw [hsS] at bn
    obtain ⟨W3, hW3⟩ : ∃ W3, (W.setCell ⟨m1, 0, none⟩ (.slice (some ⟨g, 0, none⟩) k k)).alloc (.cells #[.string to] 9) = W3 := ⟨_, rfl⟩
    have hsz3 : W3.heap.size = W.heap.size + 1 := by rw [← hW3]; simp
    rw [hW3] at bw bn b4 b5 hrow2 hB2 hD1 ⊢
    clear hW3 hrow hcut hv h4 h5 hc hf hsS hK hn
    obtain ⟨m3, hm3⟩ : ∃ m3, W.heap.size = m3 := ⟨_, rfl⟩
    rw [hm3] at hsz3 bn hgW
    have hBW := hB.size
    have hD1m : m1 + 2 ≤ D1 := by omega
    have hm31 : m1 + 2 ≤ m3 := by have := (Array.getElem?_eq_some_iff.1 bw).1; omega
    try simp only [hm3]
    clear hB hBW hm3
    refine' wpIn_rangeFunc_ownF (n := 3) rfl (by decide) (gf := 42) (lb := #[.pointer (some ⟨m3, 0, none⟩)]) rfl trivial (enters_of Try.func42 (by kernel_rfl) rfl)
      (parts_stops to (by omega) 2 (by omega) (m3) _ bn) KeepB.trans (KeepB.put bn.lt) (Below.refl _ _) (fun _ => rfl)
      (fun pre W => ((∃ v way, Boxed W m1 34 v ∧ ownsPart W (m1 + 2) 9 1 v way.length (strsOf way) ∧ some (m3) ≠ v.ownBlock ∧ walkWay S (pre.map (seg to)) = some (bl way) ∧ way.length ≤ at'.size + pre.length) ∧ Boxed W w.heap.size 9 (.string ⟨#[]⟩) ∧ Boxed W (w.heap.size + 1) 22 (.int .i64 0) ∧ Boxed W (m3) 9 (.string to) ∧ W.heap[D1]? = some (.deferred (some []))) ∧ Below w.heap.size w W)
      (fun c pre W => (c = .ret ∧ walkWay S (pre.map (seg to)) = none ∧ Boxed W w.heap.size 9 (.string ⟨#[]⟩) ∧ Boxed W (w.heap.size + 1) 22 (.int .i64 140) ∧ W.heap[D1]? = some (.deferred (some []))) ∧ Below w.heap.size w W)
      (OwnFrom.and (fun s A B row hs hg hr => by
        obtain ⟨⟨v, way, h1, h2, h3⟩, h6, h7, h8, h9⟩ := hs
        have hr2 := fun r e => (hr r e).2
        exact ⟨⟨v, way, boxed_own h1 hg hr2, part_own h2 hg hr2, h3⟩, boxed_own h6 hg hr2, boxed_own h7 hg hr2, boxed_own h8 hg hr2, (hg.block _ (Array.getElem?_eq_some_iff.1 h9).1 (fun e => by have := (hr _ e.symm).1; have := (Array.getElem?_eq_some_iff.1 hD1).1; omega)).trans h9⟩) (ownFrom_below (Nat.le_refl _) (by have := hB2.size; omega)))
      (fun c => OwnFrom.and (fun s A B row hs hg hr => by
        obtain ⟨h1, h2, h6, h7, h9⟩ := hs
        have hr2 := fun r e => (hr r e).2
        exact ⟨h1, h2, boxed_own h6 hg hr2, boxed_own h7 hg hr2, (hg.block _ (Array.getElem?_eq_some_iff.1 h9).1 (fun e => by have := (hr _ e.symm).1; have := (Array.getElem?_eq_some_iff.1 hD1).1; omega)).trans h9⟩) (ownFrom_below (Nat.le_refl _) (by have := hB2.size; omega)))
      ⟨⟨⟨.slice (some ⟨g, 0, none⟩) k k, way.dropLast, bw, by rw [HK2.out]; exact hrow2, by simp [Value.ownBlock]; omega, by rw [← HSB.out]; rfl, by rw [HK2.out]; have := HKK.out; simp; omega⟩, b4, b5, bn, hD1⟩, hB2⟩
      _ ?assign2 ?body2 ?done2 ?stop2
    case assign2 =>
      intro l x W K hK
      dsimp only [encSpan]
      gi_wp2
      exact hK
    case body2 =>
      rintro l pre x W ⟨⟨⟨v, way, hv, hrow, hne, hwk, hlen⟩, h4, h5, hn, hD⟩, hB⟩ hlt
      have hx : (to.extract x.1.1 x.1.2).data.toList = seg to x := Lib.extract_data _ _ _
      rw [← toList_data] at hx
      have hwk' : walkWay S ((pre ++ [x]).map (seg to)) = stepWay (bl way) (seg to x) := by rw [List.map_append, List.map_cons, List.map_nil, walkWay_snoc, hwk]; rfl
      have hpl : pre.length ≤ to.size := by have := spans_length to.data.toList 0; have h9 := length_wt ((parts 0 to.data.toList).map (·.2)); rw [wt_parts] at h9; have := Lib.size_eq to; simp at h9; omega
      obtain ⟨X, hX⟩ : ∃ X, to.extract x.1.1 x.1.2 = X := ⟨_, rfl⟩
      rw [hX] at hx
      try dsimp only
      simp only [hX]
      have hN : ∀ W, Calls Try.prog 33 #[.string X] W fun e w' => e = .returned (.bool (isName (seg to x))) ∧ Below W.heap.size W w' := fun W => by
        have := named_calls X W
        rwa [← toList_data, hx] at this
      have HWK := Lib.hid hwk'; clear hwk' hwk
      have hc := hv.cell; have hf := hv.frozen; have hc4 := h4.cell; have hf4 := h4.frozen; have hc5 := h5.cell; have hf5 := h5.frozen
      have hmB : m1 < W.heap.size := hv.lt
      have hnB : m3 < W.heap.size := hn.lt
      clear hX
      by_cases e1 : seg to x = []
      · have t1 : X.toList.isEmpty = true := by simp [hx, e1]
        rw [e1] at hx
        have HX := Lib.hid hx; clear hx
        have hs : stepWay (bl way) (seg to x) = some (bl way) := by unfold stepWay; rw [if_pos (.inl e1)]
        have H1 := Lib.hid hs; clear hs e1
        gi_wp2
        exact ⟨KeepsOthers.refl _, KeepB.refl _ _, ⟨⟨v, way, hv, hrow, hne, HWK.out.trans H1.out, by simp; omega⟩, h4, h5, hn, hD⟩, hB⟩
      have t1 : X.toList.isEmpty = false := by rw [hx]; cases hq : seg to x with | nil => exact absurd hq e1 | cons => rfl
      by_cases e2 : seg to x = [46]
      · have t2 : (X.toList == [46]) = true := by rw [hx, e2]; rfl
        have HX := Lib.hid hx; clear hx
        have hs : stepWay (bl way) (seg to x) = some (bl way) := by unfold stepWay; rw [if_pos (.inr e2)]
        have H1 := Lib.hid hs; clear hs e1 e2
        gi_wp2
        exact ⟨KeepsOthers.refl _, KeepB.refl _ _, ⟨⟨v, way, hv, hrow, hne, HWK.out.trans H1.out, by simp; omega⟩, h4, h5, hn, hD⟩, hB⟩
      have t2 : (X.toList == [46]) = false := by rw [hx]; simpa using e2
      by_cases e3 : seg to x = [46, 46] ∧ way ≠ []
      · obtain ⟨e3, e4⟩ := e3
        have t3 : (X.toList == [46, 46]) = true := by rw [hx, e3]; rfl
        have hs : stepWay (bl way) (seg to x) = some (bl way.dropLast) := by unfold stepWay; rw [if_neg (by simp [e1, e2]), if_pos ⟨e3, fun h => e4 ((bl_nil _).1 h)⟩, bl_dropLast]
        obtain ⟨k, hk⟩ : ∃ k, way.length = k + 1 := ⟨way.length - 1, by have := List.length_pos_iff.2 e4; omega⟩
        rw [hk] at hrow
        have hrow' := hrow
        obtain ⟨g, cap, rfl⟩ := part_succ hrow
        have hcap : k + 1 ≤ cap := by rcases hrow.2 with ⟨h, _⟩ | ⟨g', cap', cur', h, _, _, h4', _⟩; (cases h); (cases h; exact h4')
        have hcut := hrow.cut (k := k) (by omega) rfl
        rw [strsOf_cut way k hk] at hcut
        have hsl := slice_cut g k cap hcap
        have hk2 : way.dropLast.length = k := by simp [hk]
        have hkb : (k : Int) ≤ 4611686018427387904 := by omega
        have q1 : IntKind.i64.wrap (((k + 1 : Nat) : Int) - 1) = (k : Int) := by rw [IntWalk.i64_in _ (by omega)]; omega
        have H1 := Lib.hid hs; have HX := Lib.hid hx; have HK := Lib.hid hk; have HK2 := Lib.hid hk2; clear hs hx hk hk2 e1 e2 e3 e4
        gi_wp2
        have hv2 := hv.set (.slice (some ⟨g, 0, none⟩) k k)
        refine ⟨KeepsOthers.setCell _ _ _, KeepB.set _ _ (by simp <;> omega), ⟨⟨_, way.dropLast, hv2, by rw [HK2.out]; exact hcut.kept (grownBy_setCell' _ _ _) (.inr (not_part hv (by decide) hcut).symm), hne, HWK.out.trans H1.out, by rw [HK2.out]; have := HK.out; simp; omega⟩, h4.kept (grownBy_setCell' _ _ _) (by simp <;> omega), h5.kept (grownBy_setCell' _ _ _) (by simp <;> omega), hn.kept (grownBy_setCell' _ _ _) (by simp <;> omega), (KeepsOthers.setCell _ _ _).same _ _ hD rfl⟩, hB.setCell (p := ⟨m1, 0, none⟩) (by simp <;> omega) _⟩
      cases e4 : isName (seg to x) with
      | false =>
        have hs : stepWay (bl way) (seg to x) = none := by unfold stepWay; rw [if_neg (by simp [e1, e2]), if_neg (by rintro ⟨h1, h2⟩; exact e3 ⟨h1, fun h => h2 ((bl_nil _).2 h)⟩), if_neg (by simp [e4])]
        rw [e4] at hN
        obtain ⟨a, c, rfl⟩ : ∃ a c, v = .slice a way.length c := by rcases hrow.2 with ⟨h, h'⟩ | ⟨g', cap', cur', h, _⟩; (exact ⟨none, 0, by rw [h, h']⟩); (exact ⟨_, _, h⟩)
        by_cases e5 : seg to x = [46, 46]
        · have t3 : (X.toList == [46, 46]) = true := by rw [hx, e5]; rfl
          have hw0 : way.length = 0 := by rw [List.length_eq_zero_iff]; exact Classical.not_not.1 fun h => e3 ⟨e5, h⟩
          rw [hw0] at hc
          have H1 := Lib.hid hs; have HX := Lib.hid hx; clear hs hx e1 e2 e3 e4 e5 hw0
          gi_wp2_with (refine ⟨trivial, ?_⟩; gi_at_call 33; refine (CallsIn.inRound l (callsIn_wide.2 (hN _))).mono ?_; rintro e w' ⟨rfl, hb'⟩; have k4 := boxed_below h4 hb'; have k5 := boxed_below h5 hb'; have kc4 := k4.cell; have kf4 := k4.frozen; have kc5 := k5.cell; have kf5 := k5.frozen)
          exact ⟨((others_below hb').trans (KeepsOthers.setCell _ _ _)).trans (KeepsOthers.setCell _ _ _), ⟨rfl, HWK.out.trans H1.out, (k4.set _).kept (grownBy_setCell' _ _ _) (by simp), (k5.kept (grownBy_setCell' _ _ _) (by simp)).set _, (((others_below hb').trans (KeepsOthers.setCell _ _ _)).trans (KeepsOthers.setCell _ _ _)).same _ _ hD rfl⟩, ((hB.trans (hb'.mono hB.size)).setCell (p := ⟨w.heap.size, 0, none⟩) (Nat.le_refl _) _).setCell (p := ⟨w.heap.size + 1, 0, none⟩) (by simp) _⟩
        · have t3 : (X.toList == [46, 46]) = false := by rw [hx]; simpa using e5
          have H1 := Lib.hid hs; have HX := Lib.hid hx; clear hs hx e1 e2 e3 e4 e5
          gi_wp2_with (refine ⟨trivial, ?_⟩; gi_at_call 33; refine (CallsIn.inRound l (callsIn_wide.2 (hN _))).mono ?_; rintro e w' ⟨rfl, hb'⟩; have k4 := boxed_below h4 hb'; have k5 := boxed_below h5 hb'; have kc4 := k4.cell; have kf4 := k4.frozen; have kc5 := k5.cell; have kf5 := k5.frozen)
          exact ⟨((others_below hb').trans (KeepsOthers.setCell _ _ _)).trans (KeepsOthers.setCell _ _ _), ⟨rfl, HWK.out.trans H1.out, (k4.set _).kept (grownBy_setCell' _ _ _) (by simp), (k5.kept (grownBy_setCell' _ _ _) (by simp)).set _, (((others_below hb').trans (KeepsOthers.setCell _ _ _)).trans (KeepsOthers.setCell _ _ _)).same _ _ hD rfl⟩, ((hB.trans (hb'.mono hB.size)).setCell (p := ⟨w.heap.size, 0, none⟩) (Nat.le_refl _) _).setCell (p := ⟨w.heap.size + 1, 0, none⟩) (by simp) _⟩
      | true =>
        have e5 : seg to x ≠ [46, 46] := fun h => by rw [h] at e4; revert e4; decide
        have t3 : (X.toList == [46, 46]) = false := by rw [hx]; simpa using e5
        have hs : stepWay (bl way) (seg to x) = some (bl (way ++ [X])) := by unfold stepWay; rw [if_neg (by simp [e1, e2]), if_neg (fun h => e5 h.1), if_pos e4, bl_snoc, ← toList_data, hx]
        rw [e4] at hN
        have H1 := Lib.hid hs; have HX := Lib.hid hx; clear hs hx e1 e2 e3 e4 e5
        have hbsz := hB.size
        gi_wp2_with (first | (refine ⟨trivial, ?_⟩; gi_at_call 33; refine (CallsIn.inRound l (callsIn_wide.2 (hN _))).mono ?_; rintro e w' ⟨rfl, hb'⟩; have kv := boxed_below hv hb'; have kc := kv.cell; have kf := kv.frozen; have krow := hrow.below hb'; have k4 := boxed_below h4 hb'; have k5 := boxed_below h5 hb'; have kn := boxed_below hn hb'; have hsz' := hb'.size) | (gi_at_builtin; refine wpListIn_append_part _ rfl _ _ 34 rfl (m1 + 2) 9 i0 (.string ⟨#[]⟩) 1 16 Try.underlying34 hi hz0 hz1 hz2 rfl (by decide) _ _ _ rfl (krow.alloc _) ⟨w'.heap.size, 0, none⟩ 1 1 [.string X] rfl rfl (cell_one_new _ _ _) (by simp [Value.oneCell']) (by unfold maxLen; omega) (by omega) (by simp <;> omega) ?_; intro v' w3 hown' hgrow hat; obtain ⟨g', cap', rfl⟩ := part_succ hown'; obtain ⟨hv1, hv2, hr2, hk2, hb2, hoth⟩ := part_appended (n₀ := w.heap.size) kv (by decide) krow (by omega) (by omega) (by omega) hown' hgrow; have hc1 := hv1.cell; have hf1 := hv1.frozen))
        have h4' : some w.heap.size ≠ v.ownBlock := fun e => by have := (hrow.lt _ e.symm).1; omega
        have h5' : some (w.heap.size + 1) ≠ v.ownBlock := fun e => by have := (hrow.lt _ e.symm).1; omega
        have hnn := hoth kn hne (by omega)
        have hne' : some (m3) ≠ (Value.slice (some ⟨g', 0, none⟩) (way.length + 1) cap').ownBlock := by
          rcases hat with h | ⟨b, h, hle⟩
          · rw [h]; exact hne
          · rw [h]; intro e; cases e; simp at hle; omega
        refine ⟨(others_below hb').trans hk2, KeepB.trans (KeepB.of_below hb' hnB) (Eq.trans hnn kn.symm), ⟨⟨_, way ++ [X], hv2, by rw [strsOf_snoc]; simpa using hr2, by simpa using hne', HWK.out.trans H1.out, by simp; omega⟩, hoth k4 h4' (by omega), hoth k5 h5' (by omega), hnn, ((others_below hb').trans hk2).same _ _ hD rfl⟩, (hB.trans (hb'.mono hB.size)).trans hb2⟩
    case done2 =>
      rintro D ys W hD' hys ⟨⟨⟨v, way, hv, hrow, hne, hwk, hlen⟩, h4, h5, hn, hD⟩, hB⟩ hK
      rw [seg_texts to ys hys] at hwk
      have hw2 := wt_walk hwk
      rw [wt_texts] at hw2
      have hsz := Lib.size_eq to
      have hJ := join_part hrow (by omega)
      have HR1 : R = if 200 < (Lib.join (bl way) [47]).length then ([], 140) else (Lib.join (bl way) [47], 0) := by rw [HR.out, hwk]
      obtain ⟨p, hp⟩ : ∃ p : ByteArray, p = ⟨(Lib.join (bl way) [47]).toArray⟩ := ⟨_, rfl⟩
      have hps : p.size = (Lib.join (bl way) [47]).length := by rw [hp]; rfl
      rw [← hp] at hJ
      have hc := hv.cell
      have HP2 := Lib.hid hp; have HW2 := Lib.hid hwk; have HSZ := Lib.hid hsz; clear hp hwk hsz HR
      by_cases hbig : 200 < p.size
      · rw [if_pos (by omega)] at HR1
        have u1 : decide ((200 : Int) < (p.size : Int)) = true := decide_eq_true (by omega)
        have HRR := Lib.hid HR1; have HPS := Lib.hid hps; clear HR1 hps hbig
        gi_wp2_with (refine ⟨trivial, ?_⟩; gi_at_call 36; refine (callsIn_wide.2 hJ).mono ?_; rintro e w' ⟨rfl, hb'⟩; have k4 := boxed_below h4 hb'; have k5 := boxed_below h5 hb'; have kc4 := k4.cell; have kf4 := k4.frozen; have kc5 := k5.cell; have kf5 := k5.frozen)
        have kk := ((others_below hb').trans (KeepsOthers.setCell _ ⟨w.heap.size, 0, none⟩ (.string ⟨#[]⟩))).trans (KeepsOthers.setCell _ ⟨w.heap.size + 1, 0, none⟩ (.int .i64 140))
        have hK' := kk.same _ _ hK rfl
        have k4' := (k4.set (.string ⟨#[]⟩)).kept (grownBy_setCell' _ (w.heap.size + 1) (.int .i64 140)) (by simp)
        have k5' := (k5.kept (grownBy_setCell' _ w.heap.size (.string ⟨#[]⟩)) (by simp)).set (.int .i64 140)
        have hBB := ((hB.trans (hb'.mono hB.size)).setCell (p := ⟨w.heap.size, 0, none⟩) (Nat.le_refl _) (.string ⟨#[]⟩)).setCell (p := ⟨w.heap.size + 1, 0, none⟩) (by simp) (.int .i64 140)
        refine ⟨by simp, .inl ⟨_, _, rfl, run_takeDeferred hK', ?_⟩⟩
        have c4 := boxed_own k4' (grownBy_putObj' _ D (.deferred none)) (fun r e => by cases e; exact ⟨_, hK', rfl⟩)
        have c5 := boxed_own k5' (grownBy_putObj' _ D (.deferred none)) (fun r e => by cases e; exact ⟨_, hK', rfl⟩)
        have hBD := hBB.trans (belowK_b (w := w) (Nat.le_refl _) _ D (.deferred (some [])) (.deferred none) (by have := hB2.size; omega) hK' rfl rfl)
        have hD2 := (World.putObj_heap_other (o := .deferred none) (show D1 ≠ D by have := (Array.getElem?_eq_some_iff.1 hD1).1; omega)).trans ((kk).same _ _ hD rfl)
        refine ⟨by simp, .inl ⟨_, _, rfl, run_takeDeferred hD2, ?_⟩⟩
        have d4 := boxed_own c4 (grownBy_putObj' _ D1 (.deferred none)) (fun r e => by cases e; exact ⟨_, hD2, rfl⟩)
        have d5 := boxed_own c5 (grownBy_putObj' _ D1 (.deferred none)) (fun r e => by cases e; exact ⟨_, hD2, rfl⟩)
        have hBD2 := hBD.trans (belowK_b (w := w) (Nat.le_refl _) _ D1 (.deferred (some [])) (.deferred none) (by omega) hD2 rfl rfl)
        have e4 := d4.cell; have e5 := d5.cell
        refine ⟨.tuple #[.string ⟨#[]⟩, .int .i64 140], ?_, by rw [HRR.out], hBD2⟩
        simp [results, Try.f15, go_sem, e4, e5]
      · rw [if_neg (by omega)] at HR1
        have u1 : decide ((200 : Int) < (p.size : Int)) = false := decide_eq_false (by omega)
        have HRR := Lib.hid HR1; have HPS := Lib.hid hps; clear HR1 hps hbig
        gi_wp2_with (refine ⟨trivial, ?_⟩; gi_at_call 36; refine (callsIn_wide.2 hJ).mono ?_; rintro e w' ⟨rfl, hb'⟩; have k4 := boxed_below h4 hb'; have k5 := boxed_below h5 hb'; have kc4 := k4.cell; have kf4 := k4.frozen; have kc5 := k5.cell; have kf5 := k5.frozen)
        have kk := ((others_below hb').trans (KeepsOthers.setCell _ ⟨w.heap.size, 0, none⟩ (.string p))).trans (KeepsOthers.setCell _ ⟨w.heap.size + 1, 0, none⟩ (.int .i64 0))
        have hK' := kk.same _ _ hK rfl
        have k4' := (k4.set (.string p)).kept (grownBy_setCell' _ (w.heap.size + 1) (.int .i64 0)) (by simp)
        have k5' := (k5.kept (grownBy_setCell' _ w.heap.size (.string p)) (by simp)).set (.int .i64 0)
        have hBB := ((hB.trans (hb'.mono hB.size)).setCell (p := ⟨w.heap.size, 0, none⟩) (Nat.le_refl _) (.string p)).setCell (p := ⟨w.heap.size + 1, 0, none⟩) (by simp) (.int .i64 0)
        refine ⟨by simp, .inl ⟨_, _, rfl, run_takeDeferred hK', ?_⟩⟩
        have c4 := boxed_own k4' (grownBy_putObj' _ D (.deferred none)) (fun r e => by cases e; exact ⟨_, hK', rfl⟩)
        have c5 := boxed_own k5' (grownBy_putObj' _ D (.deferred none)) (fun r e => by cases e; exact ⟨_, hK', rfl⟩)
        have hBD := hBB.trans (belowK_b (w := w) (Nat.le_refl _) _ D (.deferred (some [])) (.deferred none) (by have := hB2.size; omega) hK' rfl rfl)
        have hD2 := (World.putObj_heap_other (o := .deferred none) (show D1 ≠ D by have := (Array.getElem?_eq_some_iff.1 hD1).1; omega)).trans ((kk).same _ _ hD rfl)
        refine ⟨by simp, .inl ⟨_, _, rfl, run_takeDeferred hD2, ?_⟩⟩
        have d4 := boxed_own c4 (grownBy_putObj' _ D1 (.deferred none)) (fun r e => by cases e; exact ⟨_, hD2, rfl⟩)
        have d5 := boxed_own c5 (grownBy_putObj' _ D1 (.deferred none)) (fun r e => by cases e; exact ⟨_, hD2, rfl⟩)
        have hBD2 := hBD.trans (belowK_b (w := w) (Nat.le_refl _) _ D1 (.deferred (some [])) (.deferred none) (by omega) hD2 rfl rfl)
        have e4 := d4.cell; have e5 := d5.cell
        refine ⟨.tuple #[.string p, .int .i64 0], ?_, by rw [HRR.out, HP2.out], hBD2⟩
        simp [results, Try.f15, go_sem, e4, e5]
    case stop2 =>
      rintro D c pre W hD' hpre ⟨⟨rfl, hnone, k4', k5', hD⟩, hBB⟩ hK'
      have hRR : R = ([], 140) := by
        obtain ⟨rest, hrest⟩ := seg_prefix to pre hpre
        rw [HR.out, ← hrest, walkWay_append, hnone]; rfl
      have HRR := Lib.hid hRR; clear hRR HR
      gi_wp2
      refine ⟨by simp, .inl ⟨_, _, rfl, run_takeDeferred hK', ?_⟩⟩
      have c4 := boxed_own k4' (grownBy_putObj' _ D (.deferred none)) (fun r e => by cases e; exact ⟨_, hK', rfl⟩)
      have c5 := boxed_own k5' (grownBy_putObj' _ D (.deferred none)) (fun r e => by cases e; exact ⟨_, hK', rfl⟩)
      have hBD := hBB.trans (belowK_b (w := w) (Nat.le_refl _) _ D (.deferred (some [])) (.deferred none) (by have := hB2.size; omega) hK' rfl rfl)
      have hD2 := (World.putObj_heap_other (o := .deferred none) (show D1 ≠ D by have := (Array.getElem?_eq_some_iff.1 hD1).1; omega)).trans (hD)
      refine ⟨by simp, .inl ⟨_, _, rfl, run_takeDeferred hD2, ?_⟩⟩
      have d4 := boxed_own c4 (grownBy_putObj' _ D1 (.deferred none)) (fun r e => by cases e; exact ⟨_, hD2, rfl⟩)
      have d5 := boxed_own c5 (grownBy_putObj' _ D1 (.deferred none)) (fun r e => by cases e; exact ⟨_, hD2, rfl⟩)
      have hBD2 := hBD.trans (belowK_b (w := w) (Nat.le_refl _) _ D1 (.deferred (some [])) (.deferred none) (by omega) hD2 rfl rfl)
      have e4 := d4.cell; have e5 := d5.cell
      refine ⟨.tuple #[.string ⟨#[]⟩, .int .i64 140], ?_, by rw [HRR.out], hBD2⟩
      simp [results, Try.f15, go_sem, e4, e5]

/-- path.Target. -/
theorem target_calls (at' to : ByteArray) (hb : at'.size + to.size ≤ 1099511627776) (w : World) :
    Calls Try.prog 15 #[.string at', .string to] w fun e w' => e = .returned (.tuple #[.string ⟨(targetL at'.data.toList to.data.toList).1.toArray⟩, .int .i64 (targetL at'.data.toList to.data.toList).2]) ∧ Below w.heap.size w w' := by
  obtain ⟨R, hR⟩ : ∃ R, R = targetL at'.data.toList to.data.toList := ⟨_, rfl⟩
  rw [← hR]
  unfold targetL at hR
  by_cases h1 : at'.data.toList = []
  · rw [if_pos (.inl h1)] at hR
    subst hR
    have b1 : at'.toList.isEmpty = true := by rw [toList_data, h1]; rfl
    clear h1
    refine (callsIn_wide (n := 3)).1 ?_
    refine callsIn_of_wp_marks Try.func15 rfl trivial ?_ rfl
    simp only [Try.ntmps15, List.size_toArray, List.length_cons, List.length_nil, Nat.reduceAdd, Nat.reduceSub, Array.replicate_succ, Array.replicate_zero, List.push_toArray, List.append_toArray, List.nil_append, List.cons_append]
    gi_wp2
    refine ⟨trivial, ?_⟩
    gi_wp2
    refine ⟨.tuple #[.string ⟨#[]⟩, .int .i64 140], ?_, rfl, ((Below.refl _ w).alloc (Nat.le_refl _) _).alloc (by simp) _⟩
    simp [results, Try.f15, go_sem]
  by_cases h2 : to.data.toList = []
  · rw [if_pos (.inr (.inl h2))] at hR
    subst hR
    have b1 : at'.toList.isEmpty = false := by rw [toList_data]; cases h : at'.data.toList with | nil => exact absurd h h1 | cons => rfl
    have b2 : to.toList.isEmpty = true := by rw [toList_data, h2]; rfl
    clear h1 h2
    refine (callsIn_wide (n := 3)).1 ?_
    refine callsIn_of_wp_marks Try.func15 rfl trivial ?_ rfl
    simp only [Try.ntmps15, List.size_toArray, List.length_cons, List.length_nil, Nat.reduceAdd, Nat.reduceSub, Array.replicate_succ, Array.replicate_zero, List.push_toArray, List.append_toArray, List.nil_append, List.cons_append]
    gi_wp2
    refine ⟨trivial, ?_⟩
    gi_wp2
    refine ⟨.tuple #[.string ⟨#[]⟩, .int .i64 140], ?_, rfl, ((Below.refl _ w).alloc (Nat.le_refl _) _).alloc (by simp) _⟩
    simp [results, Try.f15, go_sem]
  have b1 : at'.toList.isEmpty = false := by rw [toList_data]; cases h : at'.data.toList with | nil => exact absurd h h1 | cons => rfl
  have b2 : to.toList.isEmpty = false := by rw [toList_data]; cases h : to.data.toList with | nil => exact absurd h h2 | cons => rfl
  have h0 : 0 < to.size := by rw [Lib.size_eq]; exact List.length_pos_iff.2 h2
  cases h3 : isPath at'.data.toList with
  | false =>
    rw [if_pos (.inr (.inr h3))] at hR
    subst hR
    have hCk : ∀ W, Calls Try.prog 12 #[.string at'] W fun e w' => e = .returned (.int .i64 140) ∧ Below W.heap.size W w' := fun W => by
      have := check_calls at' (by omega) W
      rwa [if_neg (by simp [h3])] at this
    clear h1 h2 h3
    refine (callsIn_wide (n := 3)).1 ?_
    refine callsIn_of_wp_marks Try.func15 rfl trivial ?_ rfl
    simp only [Try.ntmps15, List.size_toArray, List.length_cons, List.length_nil, Nat.reduceAdd, Nat.reduceSub, Array.replicate_succ, Array.replicate_zero, List.push_toArray, List.append_toArray, List.nil_append, List.cons_append]
    have b4 : Boxed ((w.alloc (.cells #[.string ⟨#[]⟩] 9)).alloc (.cells #[.int .i64 0] 22)) w.heap.size 9 (.string ⟨#[]⟩) := (Boxed.new w 9 (.string ⟨#[]⟩)).alloc _
    have b5 := Boxed.new (w.alloc (.cells #[.string ⟨#[]⟩] 9)) 22 (.int .i64 0)
    rw [World.size_alloc] at b5
    gi_wp2_with (refine ⟨trivial, ?_⟩; gi_at_call 12; refine (callsIn_wide.2 (hCk _)).mono ?_; rintro e w1 ⟨rfl, hb1⟩; have k4 := boxed_below b4 hb1; have k5 := boxed_below b5 hb1; have kc4 := k4.cell; have kf4 := k4.frozen; have kc5 := k5.cell; have kf5 := k5.frozen)
    have hB1 : Below w.heap.size w w1 := (((Below.refl _ w).alloc (Nat.le_refl _) _).alloc (by simp) _).trans (hb1.mono (by simp; omega))
    have e4 := ((k4.set (.string ⟨#[]⟩)).kept (grownBy_setCell' _ (w.heap.size + 1) (.int .i64 140)) (by simp)).cell
    have e5 := ((k5.kept (grownBy_setCell' _ w.heap.size (.string ⟨#[]⟩)) (by simp)).set (.int .i64 140)).cell
    refine ⟨.tuple #[.string ⟨#[]⟩, .int .i64 140], ?_, rfl, (hB1.setCell (p := ⟨w.heap.size, 0, none⟩) (Nat.le_refl _) _).setCell (p := ⟨w.heap.size + 1, 0, none⟩) (by simp) _⟩
    simp [results, Try.f15, go_sem, e4, e5]
  | true =>
    rw [if_neg (by simp [h1, h2, h3])] at hR
    have hw := wt_start at'.data.toList to.data.toList
    rw [← Lib.size_eq] at hw
    have hd : to.data.toList.head? = some to[0] := by rw [List.head?_eq_getElem?, data_getElem? to 0 h0]
    cases h4 : (to[0].toNat : Int) == 47 with
    | true =>
      refine target_abs at' to hb w b1 b2 h0 h3 h4 (startWay at'.data.toList to.data.toList) ?_ R hR hw
      unfold startWay
      rw [if_pos]
      rw [hd]
      congr 1
      exact UInt8.toNat_inj.1 (by show _ = 47; have := eq_of_beq h4; omega)
    | false =>
      refine target_rel at' to hb w b1 b2 h0 h3 h4 (startWay at'.data.toList to.data.toList) ?_ R hR hw
      unfold startWay
      rw [if_neg]
      rw [hd]
      intro h
      have : to[0] = 47 := Option.some.inj h
      rw [this] at h4
      revert h4; decide
end Go.Proofs.Ytboefcnghngoaaa
