/- The laws' calls (Act), and do: writes and syncs. -/
import Derived.Test.YtoojcgmdcbcenaaWk
namespace Go.Proofs.Ytoojcgmdcbcenaa
open Go.RowKit Go.Maps Go.Proofs.YtoojcgmdcbcenaaW.PrintWords
attribute [local go_sem ↓] Go.wp_at_zero Go.wp_at_succ
set_option linter.unusedVariables false
set_option linter.unusedSimpArgs false
set_option maxRecDepth 100000

structure S42 where
  f0 : Int
  f1 : Int
  f2 : Int
  f3 : Int
  f4 : List Int
def k42 : Kd S42 := Kd.iso (Kd.pair (Kd.int .i64) (Kd.pair (Kd.int .i64) (Kd.pair (Kd.int .i64) (Kd.pair (Kd.int .u8) (Kd.slice 3 (Kd.int .i64)))))) (fun x => (x.f0, x.f1, x.f2, x.f3, x.f4))
theorem act_at {w : World} {A : Option Addr} {n : Nat} {xs : List S42} (h : Kd.C k42 w A n xs) {i : Nat} (hi : i < xs.length) :
    ∃ (ad : Addr) (A4 : Option Addr) (c4 : Nat), A = some ad ∧ w.cell? (ad.add (i * 5)) = some (.int .i64 xs[i].f0) ∧ w.cell? ⟨(ad.add (i * 5)).block, (ad.add (i * 5)).off + 1, none⟩ = some (.int .i64 xs[i].f1) ∧ w.cell? ⟨(ad.add (i * 5)).block, (ad.add (i * 5)).off + 2, none⟩ = some (.int .i64 xs[i].f2) ∧
      w.cell? ⟨(ad.add (i * 5)).block, (ad.add (i * 5)).off + 3, none⟩ = some (.int .u8 xs[i].f3) ∧ w.cell? ⟨(ad.add (i * 5)).block, (ad.add (i * 5)).off + 4, none⟩ = some (.slice A4 xs[i].f4.length c4) ∧ xs[i].f4.length ≤ c4 ∧ Kd.C (Kd.int .i64) w A4 xs[i].f4.length xs[i].f4 := by
  have hn := h.1
  obtain ⟨ad, e, hc⟩ := h.2.2 (by omega)
  obtain ⟨c, hs, hr, hcell0⟩ := hc i _ (List.getElem?_eq_getElem hi)
  have hcell : ∀ j u, c[j]? = some u → w.cell? (ad.add (i * 5 + j)) = some u := hcell0
  obtain ⟨c0, r0, rfl, h0, c1, r1, rfl, h1, c2, r2, rfl, h2, c3, r3, rfl, h3, A4, c4, h4, l4, g4⟩ := hr
  have h0 : c0 = [.int .i64 xs[i].f0] := h0
  have h1 : c1 = [.int .i64 xs[i].f1] := h1
  have h2 : c2 = [.int .i64 xs[i].f2] := h2
  have h3 : c3 = [.int .u8 xs[i].f3] := h3
  have h4 : r3 = [.slice A4 xs[i].f4.length c4] := h4
  subst h0 h1 h2 h3 h4
  refine ⟨ad, A4, c4, e, hcell 0 _ rfl, ?_, ?_, ?_, ?_, l4, g4⟩
  · rw [← add_field _ _ 1 (by omega)]; exact hcell 1 _ rfl
  · rw [← add_field _ _ 2 (by omega)]; exact hcell 2 _ rfl
  · rw [← add_field _ _ 3 (by omega)]; exact hcell 3 _ rfl
  · rw [← add_field _ _ 4 (by omega)]; exact hcell 4 _ rfl

/-- One call of do. -/
def do1 (d : Dsk) (x : S42) : Dsk := if among x.f0 4 = 3 then d.sync.2 else (d.write (among x.f1 d.vals.length : Nat) (fullS x.f3)).2
def doD (d : Dsk) (l : List S42) : Dsk := l.foldl do1 d
theorem take_len (d : Dsk) : d.take.2.vals.length = d.vals.length := by unfold Dsk.take; split <;> rfl
theorem sync_len (d : Dsk) : d.sync.2.vals.length = d.vals.length := by
  unfold Dsk.sync
  split
  · simp [Dsk.settled, take_len]
  · exact take_len d
theorem write_len (d : Dsk) (i : Int) (b : Sec) : (d.write i b).2.vals.length = d.vals.length := by
  unfold Dsk.write
  split
  · rfl
  · split
    · rfl
    · split
      · simp [Dsk.put, take_len]
      · exact take_len d
theorem sync_taken (d : Dsk) : d.sync.2.taken ≤ d.taken + 1 := by
  unfold Dsk.sync
  split
  · exact take_taken
  · exact take_taken
theorem write_taken (d : Dsk) (i : Int) (b : Sec) : (d.write i b).2.taken ≤ d.taken + 1 := by
  unfold Dsk.write
  split
  · exact Nat.le_succ _
  · split
    · exact Nat.le_succ _
    · split
      · exact take_taken
      · exact take_taken
theorem do1_len (d : Dsk) (x : S42) : (do1 d x).vals.length = d.vals.length := by
  unfold do1
  split
  · exact sync_len d
  · exact write_len d _ _
theorem do1_taken (d : Dsk) (x : S42) : (do1 d x).taken ≤ d.taken + 1 := by
  unfold do1
  split
  · exact sync_taken d
  · exact write_taken d _ _
theorem doD_len : ∀ (l : List S42) (d : Dsk), (doD d l).vals.length = d.vals.length
  | [], _ => rfl
  | x :: r, d => by rw [doD, List.foldl_cons]; exact (doD_len r (do1 d x)).trans (do1_len d x)
theorem doD_taken : ∀ (l : List S42) (d : Dsk), (doD d l).taken ≤ d.taken + l.length
  | [], _ => Nat.le_refl _
  | x :: r, d => by
    rw [doD, List.foldl_cons]
    have h1 := doD_taken r (do1 d x)
    have h2 := do1_taken d x
    rw [List.length_cons]
    exact Nat.le_trans h1 (by omega)
theorem doD_snoc (d : Dsk) (l : List S42) (x : S42) : doD d (l ++ [x]) = do1 (doD d l) x := by simp [doD, List.foldl_append]
/-- The call 'd.Write(Among(At, d.Sectors()), full(Fill))', behind what it reads. -/
theorem write_chain {w0 w : World} {p : Nat} {d : Dsk} {L : List Res} (H : St w0 w (rDisk p d :: L)) (ht : d.taken < maxTaken) {c : Int} (hc : 0 ≤ c ∧ c ≤ 255) (i : Int) :
    Calls Try.prog 22 #[.int .u8 c] w fun e w' => ∃ g cc, e = .returned (.slice (some ⟨g, 0, none⟩) 256 cc) ∧ Below w.heap.size w w' ∧
      Calls Try.prog 21 #[.pointer (some ⟨p, 0, none⟩), .int .i64 i, .slice (some ⟨g, 0, none⟩) 256 cc] w' fun e w' => ∃ r, e = .returned (.int .i64 r) ∧ r = (d.write i (fullS c)).1 ∧ Aside0 (St w0 w' (rDisk p (d.write i (fullS c)).2 :: L)) := by
  refine (full_calls w c).mono ?_
  rintro e w' ⟨v, rfl, hv, hb⟩
  have H1 := H.gainRow hb hv
  obtain ⟨g, cc, rfl, _, _⟩ := hv.form (by omega)
  refine ⟨g, cc, rfl, hb, ((St.swap H1).writeRow (fullS_len c) (fullS_mem hc) ht i).mono ?_⟩
  rintro e w'' ⟨rfl, h⟩
  exact ⟨_, rfl, rfl, ⟨h⟩⟩
theorem getD_lt {l : List S42} {k : Nat} (h : k < l.length) : l.take (k + 1) = l.take k ++ [l[k]] := by rw [List.take_succ_eq_append_getElem h]
set_option maxHeartbeats 4000000 in
theorem do_calls {w0 w : World} {p : Nat} {d : Dsk} {L : List Res} {A : Option Addr} {c : Nat} {l : List S42} (H : St w0 w (rDisk p d :: L)) (hA : Kd.C k42 w0 A l.length l) (hf : ∀ x ∈ l, 0 ≤ x.f3 ∧ x.f3 ≤ 255) (ht : d.taken + 200 ≤ maxTaken) :
    Calls Try.prog 12 #[.pointer (some ⟨p, 0, none⟩), .slice A l.length c] w fun e w' => e = .returned (.tuple #[]) ∧ St w0 w' (rDisk p (doD d (l.take 200)) :: L) := by
  have hn := H.diskOk.n1
  have hn2 := H.diskOk.n2
  obtain ⟨n, hnl⟩ : ∃ n, n = l.length := ⟨_, rfl⟩
  have hmax : l.length ≤ 9223372036854775807 := hA.2.1
  rw [← hnl] at hmax ⊢
  have HA := Aside0.mk hA
  have HF := Aside0.mk hf
  have HT := Aside0.mk ht
  have HN := Aside0.mk hnl
  have HN1 := Aside0.mk hn
  have HN2 := Aside0.mk hn2
  replace H := Aside0.mk H
  clear hA hf ht hnl hn hn2
  go_enter Try.func12, Try.ntmps12
  go_wp2_with fail
  go_loopw [4] (fun i W => ∃ k : Nat, i = .int .i64 (k : Int) ∧ k ≤ n ∧ k ≤ 200 ∧ Aside0 (St w0 W (rDisk p (doD d (l.take k)) :: L))) (fun i _ => n - (RowKit.intOf i).toNat)
  case atStart => exact ⟨0, rfl, Nat.zero_le _, Nat.zero_le _, H⟩
  case round =>
    clear H
    obtain ⟨k, rfl, hk1, hk2, HK⟩ := hrel
    by_cases hlt : k < n ∧ k < 200
    · obtain ⟨h1, h2⟩ := hlt
      have t1 : decide ((k : Int) < (n : Int)) = true := decide_eq_true (by omega)
      have t2 : decide ((k : Int) < 200) = true := decide_eq_true (by omega)
      have t3 : (0 : Int) ≤ (k : Int) := by omega
      have t4 : (k : Int) < (n : Int) := by omega
      have hkl : k < l.length := by rw [← HN.out]; exact h1
      obtain ⟨ad, A4, c4, rfl, a0, a1, a2, a3, a4, _⟩ := act_at (Kd.C_below HA.out HK.out.below) hkl
      have hx := HF.out l[k] (List.getElem_mem hkl)
      have hS : ∀ W, Below w0.heap.size w0 W → W.cell? ⟨(ad.add (k * 5)).block, (ad.add (k * 5)).off + 1, none⟩ = some (.int .i64 l[k].f1) ∧ W.cell? ⟨(ad.add (k * 5)).block, (ad.add (k * 5)).off + 3, none⟩ = some (.int .u8 l[k].f3) := fun W hW => by
        obtain ⟨ad', _, _, e, _, b1, _, b3, _⟩ := act_at HA.out hkl
        cases e
        exact ⟨pw_cell_below hW b1, pw_cell_below hW b3⟩
      have htk : (doD d (l.take k)).taken < maxTaken := by
        have := doD_taken (l.take k) d
        rw [List.length_take] at this
        have := HT.out
        omega
      have hlen := doD_len (l.take k) d
      have hd : doD d (l.take (k + 1)) = do1 (doD d (l.take k)) l[k] := by rw [getD_lt hkl, doD_snoc]
      generalize l[k] = x at *
      generalize doD d (l.take k) = dk at *
      have hpos : 0 < dk.vals.length := by rw [hlen]; have := HN1.out; omega
      have hle : dk.vals.length ≤ 1048576 := by rw [hlen]; have := HN2.out; omega
      have HD := Aside0.mk hd
      obtain ⟨s, hs⟩ : ∃ s, s = dk.vals.length := ⟨_, rfl⟩
      rw [← hs] at hpos hle
      have hsec := HK.out.drew.sectors
      rw [← hs] at hsec
      have ham4 := fun W => among_calls W x.f0 (m := 4) (by omega) (by omega)
      clear hd hlen hkl
      by_cases h3 : among x.f0 4 = 3
      · have e1 : do1 dk x = dk.sync.2 := by rw [do1, if_pos h3]
        have hsy := HK.out.sync htk
        rw [← e1, ← HD.out] at hsy
        have HS := Aside0.mk hsy
        rw [h3] at ham4
        clear e1 hsy hsec
        go_wp2_with fail
        refine (ham4 _).mono ?_
        rintro e w1 ⟨rfl, rfl⟩
        go_wp2_with fail
        refine HS.out.mono ?_
        rintro e w2 ⟨rfl, H2⟩
        replace H2 := Aside0.mk H2
        go_wp2
        go_roundw
        case rel => exact ⟨k + 1, by go_num, h1, h2, H2⟩
        case measure => simp only [RowKit.intOf]; omega
      · have e1 : do1 dk x = (dk.write (among x.f1 s : Nat) (fullS x.f3)).2 := by rw [do1, if_neg h3, hs]
        obtain ⟨q, hq⟩ : ∃ q, q = among x.f0 4 := ⟨_, rfl⟩
        rw [← hq] at ham4 h3
        have b3 : ((q : Int) == 3) = false := by simpa using (by omega : (q : Int) ≠ 3)
        have ham := fun W => among_calls W x.f1 hpos hle
        obtain ⟨j, hj⟩ : ∃ j, j = among x.f1 s := ⟨_, rfl⟩
        rw [← hj] at ham e1
        have hwc := write_chain HK.out.drew htk hx (j : Int)
        rw [← e1, ← HD.out] at hwc
        have HW := Aside0.mk hwc
        have HB0 := Aside0.mk HK.out
        clear e1 hwc hq hj hs
        go_wp2_with fail
        refine (ham4 _).mono ?_
        rintro e w1 ⟨rfl, rfl⟩
        go_wp2_with fail
        have HS := Aside0.mk hS
        clear hS
        go_region_held3 (fun W => W.cell? ⟨(ad.add (k * 5)).block, (ad.add (k * 5)).off + 1, none⟩ = some (.int .i64 x.f1) ∧ W.cell? ⟨(ad.add (k * 5)).block, (ad.add (k * 5)).off + 3, none⟩ = some (.int .u8 x.f3))
          ((first | exact HS.out _ HB0.out.drew.below | exact HS.out _ (HB0.out.drew.below.trans (hbl.out.mono HB0.out.drew.below.size)) | exact HS.out _ hfin.out.below))
          ((first
            | (go_at_call 19; refine hsec.mono ?_; rintro e w2 ⟨rfl, rfl⟩)
            | (go_at_call 11; refine (ham _).mono ?_; rintro e w2 ⟨rfl, rfl⟩)
            | (go_at_call 22; refine HW.out.mono ?_; rintro e w2 ⟨g, cc, rfl, hbl, h21⟩; replace hbl := Aside0.mk hbl; replace h21 := Aside0.mk h21)
            | (go_at_call 21; refine h21.out.mono ?_; rintro e w3 ⟨r, rfl, _, hfin⟩)))
        all_goals (
          go_wp2
          go_roundw
          case rel => exact ⟨k + 1, by go_num, h1, h2, hfin⟩
          case measure => simp only [RowKit.intOf]; omega)
    · have hk : k = min 200 n := by omega
      have hf : doD d (l.take k) = doD d (l.take 200) := by
        by_cases h : k < 200
        · have e1 : n ≤ k := by omega
          rw [List.take_of_length_le (by rw [← HN.out]; exact e1), List.take_of_length_le (by rw [← HN.out]; omega)]
        · rw [show k = 200 by omega]
      have HZ := Aside0.mk (hf ▸ HK.out)
      clear hf hk
      by_cases h1 : k < n
      · have t1 : decide ((k : Int) < (n : Int)) = true := decide_eq_true (by omega)
        have t2 : decide ((k : Int) < 200) = false := decide_eq_false (by omega)
        go_wp2
        go_end0
        exact ⟨rfl, HZ.out⟩
      · have t1 : decide ((k : Int) < (n : Int)) = false := decide_eq_false (by omega)
        go_wp2
        go_end0
        exact ⟨rfl, HZ.out⟩
end Go.Proofs.Ytoojcgmdcbcenaa
