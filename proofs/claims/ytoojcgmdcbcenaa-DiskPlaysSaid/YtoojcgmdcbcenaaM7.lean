/- The disk's Image. -/
import Derived.Test.YtoojcgmdcbcenaaM6
import Derived.Laws.IdiomRangeMap
namespace Go.Proofs.Ytoojcgmdcbcenaa
open Go.RowKit Go.Maps Go.Proofs.YtoojcgmdcbcenaaW.PrintWords
attribute [local go_sem ↓] Go.wp_at_zero Go.wp_at_succ
set_option linter.unusedVariables false
set_option linter.unusedSimpArgs false
set_option maxRecDepth 100000

/-- A map that is ranged over. -/
def rRng {H : Type} (P : Program) (k : TypeId) (R : Value → Option (DataW H × List MemPlace)) (b r n : Nat) (D : DataW H) (left : Lit → Bool) (cnt : Nat) : Res :=
  ⟨fun w _ S => w.ranges P k R b r n D left cnt ∧ ∀ i, S i ↔ i = b ∨ i = r, fun h i hi => by
     rcases (h.2 i).1 hi with rfl | rfl
     · exact h.1.owns.lt
     · exact h.1.lt,
   fun {w T S w' T'} h _ hk _ => ⟨by
     obtain ⟨es, clock, since, seen, c0, h1, h2, h3, h4, h5, r⟩ := h.1
     exact ⟨es, clock, since, seen, c0, (hk b (.inl ((h.2 b).2 (.inl rfl)))).trans h1, h2, h3, h4, (hk _ (.inl ((h.2 _).2 (.inr rfl)))).trans h5, r⟩, h.2⟩⟩
theorem St.rng {w0 w : World} {H : Type} {P : Program} {k : TypeId} {R : Value → Option (DataW H × List MemPlace)} {b r n cnt : Nat} {D : DataW H} {left : Lit → Bool} {L : List Res} (h : St w0 w (rRng P k R b r n D left cnt :: L)) : w.ranges P k R b r n D left cnt := by
  obtain ⟨T, S, h, _⟩ := h.fst; exact h.1
theorem St.toRng {w0 w w' : World} {H : Type} {P : Program} {k : TypeId} {R : Value → Option (DataW H × List MemPlace)} {b n cnt : Nat} {D : DataW H} {left : Lit → Bool} {L : List Res} (h : St w0 w (rMap P k R b n D :: L)) (h' : w'.ranges P k R b w.heap.size n D left cnt) (g : w.grownBy w' none) : St w0 w' (rRng P k R b w.heap.size n D left cnt :: L) :=
  h.updS fun T S ha _ _ => ⟨fun i => i = b ∨ i = w.heap.size, ⟨h', fun _ => Iff.rfl⟩, fun i hi => by
    rcases hi with rfl | rfl
    · exact .inl ((ha.2 _).2 rfl)
    · exact .inr (Nat.le_refl _), Moved.grown g (by simp)⟩
theorem St.setRng {w0 w w' : World} {H : Type} {P : Program} {k : TypeId} {R : Value → Option (DataW H × List MemPlace)} {b r n cnt cnt' : Nat} {D : DataW H} {left left' : Lit → Bool} {L : List Res} (h : St w0 w (rRng P k R b r n D left cnt :: L)) (h' : w'.ranges P k R b r n D left' cnt') (g : w.grownBy w' (some r)) : St w0 w' (rRng P k R b r n D left' cnt' :: L) :=
  h.updS fun T S ha _ _ => ⟨S, ⟨h', ha.2⟩, fun _ h => .inl h, Moved.grown g fun k e => by cases e; exact (ha.2 _).2 (.inr rfl)⟩

/-- The bytes, some sectors still to be copied. -/
def some_ (left : Lit → Bool) (vals : List (List Sec)) : List Sec := (List.range vals.length).map fun i => if left (.int .i64 (i : Nat)) = true then headOf (vals.getD i []) else lastOf (vals.getD i [])
theorem some_len (left : Lit → Bool) (vals : List (List Sec)) : (some_ left vals).length = vals.length := by simp [some_]
theorem some_get (left : Lit → Bool) (vals : List (List Sec)) {i : Nat} (hi : i < vals.length) : (some_ left vals).getD i [] = if left (.int .i64 (i : Nat)) = true then headOf (vals.getD i []) else lastOf (vals.getD i []) := by
  rw [List.getD_eq_getElem?_getD, some_, List.getElem?_map, List.getElem?_range hi]; rfl
theorem map_range_getD {α β : Type} (z : α) (f : α → β) : ∀ l : List α, (List.range l.length).map (fun i => f (l.getD i z)) = l.map f
  | [] => rfl
  | a :: r => by
    rw [List.length_cons, List.range_succ_eq_map, List.map_cons, List.map_map, List.map_cons, List.getD_cons_zero]
    congr 1
    exact map_range_getD z f r
theorem some_start {D : DU} {vals : List (List Sec)} (hM : Many D vals) (hne : ∀ l ∈ vals, l ≠ []) : some_ (Maps.has D) vals = vals.map headOf := by
  rw [← map_range_getD [] headOf vals, some_]
  refine List.map_congr_left fun i hi => ?_
  have hi := List.mem_range.1 hi
  rw [hM.has i hi]
  split
  · rfl
  · rename_i h
    have h1 : (vals.getD i []).length ≤ 1 := by simpa using h
    have h2 : 0 < (vals.getD i []).length := by
      rw [List.getD_eq_getElem?_getD, List.getElem?_eq_getElem hi]
      exact List.length_pos_iff.2 (hne _ (List.getElem_mem hi))
    rw [headOf_get, lastOf_get, show (vals.getD i []).length - 1 = 0 by omega]
theorem some_end {left : Lit → Bool} (vals : List (List Sec)) (h : ∀ kl, left kl = false) : some_ left vals = vals.map lastOf := by
  rw [← map_range_getD [] lastOf vals, some_]
  refine List.map_congr_left fun i hi => ?_
  rw [h]; rfl
theorem some_step {left : Lit → Bool} {vals : List (List Sec)} {i : Nat} (hi : i < vals.length) : some_ (fun z => left z && !z.sameKey (.int .i64 (i : Nat))) vals = (some_ left vals).set i (lastOf (vals.getD i [])) := by
  refine List.ext_getElem? fun j => ?_
  rw [List.getElem?_set]
  by_cases hj : j < vals.length
  · simp only [some_, List.getElem?_map, List.getElem?_range hj, Option.map_some, List.length_map, List.length_range]
    by_cases e : i = j
    · subst e
      have hs := WideAt.sameKey_self (int_key (i : Nat))
      rw [if_pos rfl, if_pos hj]
      simp [hs]
    · have hs := sameKey_ne (a := .int .i64 (j : Nat)) (b := .int .i64 (i : Nat)) (fun h => e (by injection h with _ h; omega))
      rw [if_neg e]
      simp [hs]
  · have hl := some_len left vals
    have hl2 := some_len (fun z => left z && !z.sameKey (.int .i64 (i : Nat))) vals
    rw [List.getElem?_eq_none (by omega), if_neg (by omega), List.getElem?_eq_none (by omega)]
theorem some_256 {left : Lit → Bool} {d : Dsk} (hok : d.Ok) : ∀ s ∈ some_ left d.vals, s.length = 256 := fun s hs => by
  obtain ⟨i, hi, rfl⟩ := List.mem_map.1 hs
  have hi := List.mem_range.1 hi
  split
  · exact hok.head _ (hok.get hi)
  · exact hok.last _ (hok.get hi)
theorem some_flat {left : Lit → Bool} {d : Dsk} (hok : d.Ok) : (some_ left d.vals).flatten.length = d.vals.length * 256 := by rw [flatten_len (some_256 hok), some_len]

/-- On the way through Image. -/
def IL (p : Nat) (d : Dsk) (x : DX) (v : Value) (r : Nat) (left' left : Lit → Bool) (cnt : Nat) (L : List Res) : List Res :=
  rRng Try.prog 3 (plainElem Try.prog 3) x.mm r d.extra x.Dm left' cnt :: rRow 5 1 v (some_ left d.vals).flatten.length (bytes (some_ left d.vals).flatten) ::
    rBlk p (dObj x d) :: rRow 5 1 (.slice (some ⟨x.a, 0, none⟩) (d.vals.length * 256) x.cap) (d.vals.length * 256) (bytes d.sure) :: rMap Try.prog 73 rdVal x.mf d.extra x.Df :: rVals x.Df d.vals :: L
section
variable {w0 w : World} {p : Nat} {d : Dsk} {L : List Res}
theorem IL.diskIs {x : DX} {v : Value} {r cnt : Nat} {left' left : Lit → Bool} (H : St w0 w (IL p d x v r left' left cnt L)) (hok : d.Ok) (hM : Many x.Dm d.vals) : DiskIs w p d x := by
  obtain ⟨T, S, h, _⟩ := H.drop.drop.drop.drop.drop.fst
  exact ⟨hok, hM, H.drop.drop.blk, H.drop.drop.drop.row, H.drop.drop.drop.drop.map, H.rng.owns, fun i k s h1 h2 => by
    obtain ⟨b, c, h3, h4⟩ := h.1 i k s h1 h2
    exact ⟨b, c, h3, h4.2⟩⟩
/-- One round of Image. -/
theorem IL.round {x : DX} {g N cc r cnt : Nat} {left' left : Lit → Bool} (H : St w0 w (IL p d x (.slice (some ⟨g, 0, none⟩) N cc) r left' left cnt L)) (hok : d.Ok) (hM : Many x.Dm d.vals) {i lo : Nat} (hi : i < d.vals.length) (hlo : lo = i * 256) (hb : (d.vals.getD i []).length - 1 ≤ 9223372036854775807) :
    N = d.vals.length * 256 ∧ d.vals.length * 256 ≤ cc ∧ Calls Try.prog 40 #[.pointer (some ⟨p, 0, none⟩), .int .i64 (i : Nat), .int .i64 ((d.vals.getD i []).length - 1 : Nat)] w fun e w' => ∃ a c W3, e = .returned (.slice (some a) 256 c) ∧ w' = w ∧
      (∀ ty, (Builtin.copy_ #[31, 31] ty #[.slice (some ⟨g, lo, none⟩) (N - lo) (cc - lo), .slice (some a) 256 c]).run Try.prog w = .ok (goInt 256) W3) ∧
      Aside0 (St w0 W3 (IL p d x (.slice (some ⟨g, 0, none⟩) N cc) r left' (fun z => left z && !z.sameKey (.int .i64 (i : Nat))) cnt L)) := by
  have hrow := H.drop.row
  obtain ⟨e1, e2, _⟩ := own_rd hrow
  have e3 := some_flat (left := left) hok
  have hp := hok.pos hi
  have h256 : (lastOf (d.vals.getD i [])).length = 256 := hok.last _ (hok.get hi)
  refine ⟨by omega, by omega, ((IL.diskIs H hok hM).value hi (by omega) hb).mono ?_⟩
  rintro e w' ⟨a, c, rfl, hc, hR, rfl⟩
  rw [← lastOf_get] at hR
  obtain ⟨W3, h1, h2, h3⟩ := row_copy (dLen := N - lo) (dCap := cc - lo) (sLen := 256) (sCap := c) (off := lo) hrow hR (by omega) (by omega)
  rw [h256] at h1 h2
  have hf := flatten_set h256 (some_ left d.vals) i (some_256 hok) (by rw [some_len]; exact hi)
  rw [← some_step hi, ← hlo] at hf
  rw [← hf] at h2
  exact ⟨a, c, W3, rfl, rfl, h1, ⟨St.swap ((St.swap H).setRow h2 h3 (.inl rfl))⟩⟩
set_option maxHeartbeats 4000000 in
theorem St.image (H : St w0 w (rDisk p d :: L)) (ht : d.taken ≤ maxTaken) : Calls Try.prog 13 #[.pointer (some ⟨p, 0, none⟩)] w fun e w' => ∃ v, e = .returned v ∧ St w0 w' (rRow 5 1 v d.image.length (bytes d.image) :: rDisk p d :: L) := by
  have hsure := H.sure
  have hok := H.diskOk
  have hn := hok.n2
  have hsl := hok.sure_len
  have hn1 := hok.n1
  unfold maxTaken at ht
  have hw : ∀ W v, Below w.heap.size w W → W.ownsRow w.heap.size 5 1 v d.sure.length (bytes d.sure) → ∃ (x : DX) (g cc : Nat) (W2 : World) (cnt : Nat), v = .slice (some ⟨g, 0, none⟩) (d.vals.length * 256) cc ∧ (Calls Try.prog 39 #[.pointer (some ⟨p, 0, none⟩)] W fun e w' => e = .returned (.map (some x.mm)) ∧ w' = W) ∧
      (Instr.range 51 (.map (some x.mm))).run Try.prog W = .ok (.pointer (some ⟨W.heap.size, 0, none⟩)) W2 ∧ Many x.Dm d.vals ∧ Aside0 (St w0 W2 (IL p d x v W.heap.size (Maps.has x.Dm) (Maps.has x.Dm) cnt L)) := fun W v hb hv => by
    have H1 := H.gainRow hb hv
    obtain ⟨x, H2, hwr⟩ := (St.swap H1).written
    have hd := H2.diskIs
    obtain ⟨W2, hrun, hrg, hg, hsz⟩ := hd.mm.range (t := 51) K3 Try.underlying51
    obtain ⟨g, cc, rfl, _, _⟩ := hv.form (by omega)
    have H3 := (St.fact H2).2
    -- blk, row, mf, mm, vals, own, L
    have H4 := (St.rot4 H3).toRng hrg hg
    -- rng, blk, row, mf, vals, own
    have H5 := St.swap (St.rot6 H4)
    refine ⟨x, g, cc, W2, Maps.size x.Dm, by rw [hsl], hwr, hrun, hd.many, ⟨?_⟩⟩
    have ef : (some_ (Maps.has x.Dm) d.vals).flatten = d.sure := by rw [some_start hd.many hok.ne, Dsk.sure, List.flatMap_def]
    unfold IL
    rw [ef]
    exact H5
  have HW := Aside0.mk hw
  clear hw H
  go_enter Try.func13, Try.ntmps13
  go_wp2_with fail
  refine hsure.mono ?_
  rintro e w1 ⟨v, rfl, hv, hb⟩
  obtain ⟨x, g, cc, W2, cnt, rfl, hwr, hrun, hM, HI⟩ := HW.out w1 v hb hv
  have HM := Aside0.mk hM
  clear hv hb hM HW
  go_wp2_with fail
  refine hwr.mono ?_
  rintro e w2 ⟨rfl, rfl⟩
  obtain ⟨N, hN⟩ : ∃ N, N = d.vals.length * 256 := ⟨_, rfl⟩
  rw [← hN] at HI
  rw [← hN]
  obtain ⟨r, hr⟩ : ∃ r, r = w2.heap.size := ⟨_, rfl⟩
  rw [← hr] at HI hrun
  have HN := Aside0.mk hN
  have HO := Aside0.mk hok
  have HL := Aside0.mk hn
  clear hr hN hok hsure hsl hn1 hwr hn
  go_wp2_with fail
  go_loopg [] cnt (fun gk W => ∃ left, Aside0 (St w0 W (IL p d x (.slice (some ⟨g, 0, none⟩) N cc) r left left gk L)))
  case atStart => exact ⟨_, HI⟩
  case round =>
    clear HI hrun
    obtain ⟨left, HT⟩ := hrel
    rcases HT.out.rng.next K3 0 with ⟨h0, hno, hrun⟩ | ⟨key, v, kl, y, W1, cnt', hk1, hk2, hk3, hk4, hrun, hrg, hlt, hg1, hs1, hent⟩
    · have hfin : St w0 wr (rRow 5 1 (.slice (some ⟨g, 0, none⟩) N cc) d.image.length (bytes d.image) :: rDisk p d :: L) := by
        have H1 := HT.out
        have hd := IL.diskIs H1 HO.out HM.out
        have ei : (some_ left d.vals).flatten = d.image := by rw [some_end _ hno, Dsk.image, List.flatMap_def]
        unfold IL at H1
        rw [ei] at H1
        -- rng, own, blk, row, mf, vals, L
        have H2 : St w0 wr (rMap Try.prog 3 (plainElem Try.prog 3) x.mm d.extra x.Dm :: _) := H1.updS fun T S ha _ _ => ⟨fun i => i = x.mm, ⟨ha.1.owns, fun _ => Iff.rfl⟩, fun i hi => .inl ((ha.2 i).2 (.inl hi)), Moved.refl _ _⟩
        have H3 := St.back5 H2
        -- own, blk, row, mf, mm, vals
        have H4 := St.back6 H3
        refine St.swap (St.mkDisk x ?_)
        exact St.infact ⟨HO.out, HM.out⟩ H4
      have HF := Aside0.mk hfin
      clear hfin hno HT
      go_wp2
      go_ret
      exact ⟨_, rfl, HF.out⟩
    · have hhas := has_true_of_atKey hk4
      obtain ⟨i, hi, rfl⟩ := HM.out.only _ hhas
      obtain ⟨z, rfl, ez, _⟩ := keyOf_int_inv Try.underlying3 hk1
      have ezi : z = (i : Int) := by injection ez with _ ez; exact ez.symm
      subst ezi
      obtain ⟨m, rfl, rfl, hmw⟩ := plainElem_int_inv Try.underlying3 hk3
      have hmi := hk4 (.lit (.int .i64 0))
      rw [HM.out.at_ i hi] at hmi
      have hmm : m = ((d.vals.getD i []).length - 1 : Nat) := by injection hmi with hmi; injection hmi with _ hmi; exact hmi.symm
      have hb := le_of_wf (hmm ▸ hmw)
      obtain ⟨lo, hlo⟩ : ∃ lo, lo = i * 256 := ⟨_, rfl⟩
      have H1 : St w0 W1 (IL p d x (.slice (some ⟨g, 0, none⟩) N cc) r (fun z => left z && !z.sameKey (.int .i64 (i : Nat))) left cnt' L) := HT.out.setRng hrg hg1
      obtain ⟨e1, e2, hcall⟩ := IL.round H1.drew HO.out HM.out hi hlo hb
      have hLn := HL.out
      have q1 : (0 : Int) ≤ (lo : Int) := by omega
      have q2 : (lo : Int) ≤ (N : Int) := by omega
      have q3 : (N : Int) ≤ (cc : Int) := by omega
      have hne : ¬ (cc = lo) := by omega
      have hb1 : i ≤ 1048576 := by omega
      have wi1 := wi_mul hlo hb1
      obtain ⟨k, hk⟩ : ∃ k : Nat, k = (d.vals.getD i []).length - 1 := ⟨_, rfl⟩
      rw [← hk] at hcall hmm
      subst hmm
      have HC := Aside0.mk hcall
      clear H1 hrg hg1 hs1 hb hmi hmw hk hk1 hk2 hk3 hk4 hhas hi hlo e1 e2 hcall hLn HT ez
      go_wp2_with fail
      go_region_held3 (fun _ => True) (trivial) ((go_at_call 40; refine HC.out.mono ?_; rintro e W2 ⟨a, c, W3, rfl, rfl, hcp, hfin⟩))
      all_goals (
        clear wi1 hb1 q1 q2 q3 hne
        go_wp2
        go_roundg cnt'
        case measure => exact hlt
        case rel => exact ⟨_, hfin⟩)
end
end Go.Proofs.Ytoojcgmdcbcenaa
