/- Texts of this claim, one behind the other: HWorks, HWorks2, V4, V5, V6, V7, V8. -/
import Derived.Lib.SlBytesConst
import Derived.Test.YteblbggmchcijaaDoorMA16
import Derived.Test.YteblbggmchcijaaDoorMA15
import Derived.Test.YteblbggmchcijaaDoorMA2
import Derived.Lib.IndexLaws
section
/- The chapter's examples (works): closed facts; its walk. -/
namespace Go.Proofs.YteblbggmchcijaaDoor.PAll
open Go.RowKit Go.Lib Go.Proofs.YteblbggmchcijaaDoor Go.Proofs.YteblbggmchcijaaDoorW.PrintWords Go.Proofs.YteblbggmchcijaaDoorW.PrintLast Go.Proofs.YteblbggmchcijaaDoorW.PrintMore
attribute [local go_sem] Oper.semAt_some
set_option linter.unusedVariables false
set_option linter.unusedSimpArgs false

def exL : List Int := match head_Print.f ⟨#[97]⟩ ⟨#[]⟩ 0 1 48 with | some (l, _) => l | none => []
set_option maxRecDepth 100000 in
theorem ex_print : head_Print.f ⟨#[97]⟩ ⟨#[]⟩ 0 1 48 = some (exL, 0) := by decide +kernel
set_option maxRecDepth 100000 in
theorem ex_len : exL.length = 512 := by decide +kernel
set_option maxRecDepth 100000 in
theorem ex_parse : head_Parse.f exL = some (⟨#[97]⟩, ⟨#[]⟩, 0, 1, 48, 0) := by decide +kernel
theorem ex_octal : octP [48, 48, 48, 48, 54, 52, 52, 32] = (420, 0) := by decide +kernel
set_option maxRecDepth 100000 in
theorem ex_size : strOfNums ((exL.take 135).drop 124) = ⟨#[48, 48, 48, 48, 48, 48, 48, 48, 48, 48, 49]⟩ := by decide +kernel
set_option maxRecDepth 100000 in
theorem ex_empty : emptyL (List.replicate 512 0) = true := by decide +kernel
end Go.Proofs.YteblbggmchcijaaDoor.PAll
end
section
/- The chapter's examples (works): the walk. -/
namespace Go.Proofs.YteblbggmchcijaaDoor.PAll
open Go.RowKit Go.Lib Go.Proofs.YteblbggmchcijaaDoor Go.Proofs.YteblbggmchcijaaDoorW.PrintWords Go.Proofs.YteblbggmchcijaaDoorW.PrintLast Go.Proofs.YteblbggmchcijaaDoorW.PrintMore
attribute [local go_sem] Oper.semAt_some
set_option linter.unusedVariables false
set_option linter.unusedSimpArgs false
set_option maxHeartbeats 4000000 in
set_option maxRecDepth 100000 in
theorem works_calls (w : World) (hF : Fields w) : Calls Tryd.prog 17 #[] w fun e w' => e = .returned (.bool true) ∧ Below w.heap.size w w' := by
  have hu25 := Tryd.underlying25
  have HF := Aside0.mk hF
  clear hF
  go_enter Tryd.func17, Tryd.ntmps17
  go_wp2_with fail
  refine (head_Print.calls _ _ _ _ _ _ _ w ex_print HF.out).mono ?_
  rintro e w1 ⟨v, rfl, hR, hB⟩
  have HR := Aside0.mk hR
  have HB := Aside0.mk hB
  obtain ⟨A, c, rfl⟩ := Kd.R_slice hR
  clear hR hB
  go_wp2_with fail
  refine (head_Parse.calls A c exL _ _ _ _ _ _ w1 (Kd.R_reads' HR.out).2.2 (Kd.R_reads' HR.out).2.1 ex_parse (HF.out.below HB.out)).mono ?_
  rintro e w2 ⟨rfl, hB2⟩
  have HB2 := Aside0.mk (HB.out.trans (hB2.mono HB.out.size))
  have HR2 := Aside0.mk (Kd.R_below HR.out hB2)
  clear hB2 HR HB
  go_upto_region 3 with fail
  obtain ⟨W3, hW3⟩ : ∃ W3, W3 = w2.alloc (.cells #[.string ⟨#[97]⟩, .string ⟨#[]⟩, .int .i64 0, .int .i64 1, .int .u8 48] 25) := ⟨_, rfl⟩
  have HB3 : Aside0 (Below w.heap.size w W3) := Aside0.mk (by rw [hW3]; exact HB2.out.alloc HB2.out.size _)
  have HR3 : Aside0 (Kd.R (Kd.int .u8) 5 W3 w.heap.size (fun _ => True) (.slice A exL.length c) exL) := Aside0.mk (by rw [hW3]; exact Kd.R_alloc HR2.out _)
  obtain ⟨g, hg⟩ : ∃ g, g = w2.heap.size := ⟨_, rfl⟩
  have HG : Aside0 (W3.heap[g]? = some (.cells #[.string ⟨#[97]⟩, .string ⟨#[]⟩, .int .i64 0, .int .i64 1, .int .u8 48] 25 (0, 0))) := Aside0.mk (by rw [hW3, hg]; exact heap_alloc_new w2 _)
  rw [← hW3, ← hg]
  clear hW3 hg HR2 HB2
  have kc := fun (W : World) (C : Array Value) (n c : Nat) => Lib.run_convert_bytes_const (P := Tryd.prog) W 22 5 C n c Tryd.underlying22 Tryd.underlying5
  go_wp2_with fail
  obtain ⟨W4, hW4⟩ : ∃ W4, W4 = W3.alloc (.cells #[.int .u8 48, .int .u8 48, .int .u8 48, .int .u8 48, .int .u8 54, .int .u8 52, .int .u8 52, .int .u8 32] 5 (8, 9)) := ⟨_, rfl⟩
  have hC : Kd.C (Kd.int .u8) W4 (some ⟨W3.heap.size, 0, none⟩) ([48, 48, 48, 48, 54, 52, 52, 32] : List Int).length [48, 48, 48, 48, 54, 52, 52, 32] := by
    refine Kd.C_of_reads (d := (0 : Int)) (h1 := fun _ => rfl) ⟨rfl, by decide, fun _ => ⟨_, rfl, fun j hj => ?_⟩⟩
    have hn : W4.heap[W3.heap.size]? = some (.cells #[.int .u8 48, .int .u8 48, .int .u8 48, .int .u8 48, .int .u8 54, .int .u8 52, .int .u8 52, .int .u8 32] 5 (8, 9)) := by rw [hW4]; exact heap_alloc_new W3 _
    rw [add_plain, cell_of_row W4 W3.heap.size _ _ _ _ hn]
    have : j = 0 ∨ j = 1 ∨ j = 2 ∨ j = 3 ∨ j = 4 ∨ j = 5 ∨ j = 6 ∨ j = 7 := by simp at hj; omega
    rcases this with rfl | rfl | rfl | rfl | rfl | rfl | rfl | rfl <;> rfl
  have hO := octal_reads (some ⟨W3.heap.size, 0, none⟩) 8 [48, 48, 48, 48, 54, 52, 52, 32] W4 hC (by decide) (by decide) (byteB_iff.1 (by decide)) (by decide)
  rw [ex_octal] at hO
  have hB4 : Below W3.heap.size W3 W4 := by rw [hW4]; exact (Below.refl _ _).alloc (Nat.le_refl _) _
  rw [← hW4]
  refine hO.mono ?_
  rintro e W5 ⟨rfl, hB5⟩
  have hB35 := hB4.trans (hB5.mono hB4.size)
  have HB5 := Aside0.mk (HB3.out.trans (hB35.mono HB3.out.size))
  have HR5 := Aside0.mk (Kd.R_below HR3.out hB35)
  have hbk := blk_below HG.out hB35
  clear hO hC hW4 hB4 hB5 hB35 HR3 HB3 HG kc
  have d0 := blk_cell hbk 0
  have d1 := blk_cell hbk 1
  have d2 := blk_cell hbk 2
  have d3 := blk_cell hbk 3
  have d4 := blk_cell hbk 4
  clear hbk
  have hr5 := Kd.R_reads' HR5.out
  have hlc : exL.length ≤ c := hr5.2.1
  have hl5 := ex_len
  have e1 : ((exL.length : Int) == 512) = true := by rw [hl5]; rfl
  have e2 : (135 : Int) ≤ (exL.length : Int) := by rw [hl5]; decide
  obtain ⟨i0, hi0, _, hsz0, _⟩ := info_parts info5
  obtain ⟨A7, hcut7, hA7, hC7⟩ := print_mid_of (P := Tryd.prog) (Value.int .u8) 0 22 5 .i64 .i64 Tryd.underlying22 hi0 hsz0 A c exL 124 135 (by omega) (by omega) e2 hlc
  have hcv := Kd.C_string (P := Tryd.prog) (A := A7) (c := c - 124) Tryd.underlying22 Tryd.underlying5 Tryd.underlying9 (Kd.C_of_reads (h1 := fun _ => rfl) (hA7 _ (Kd.reads_of_C hr5.2.2)))
  rw [List.length_drop, List.length_take] at hcv
  simp only [Int.reduceToNat] at hcv
  rw [ex_size] at hcv
  clear hr5 hA7 hC7 hi0 hsz0 hl5
  go_wp2_with ((with_reducible refine gate_dst (N := 54) rfl ?_); (try (refine gate_guard (by rfl) ?_; dsimp only)); refine Kd.R_make (Kd.int .u8) _ 5 rfl (N := 54) rfl 22 _ _ rfl 512 rfl rfl Tryd.underlying22 (.int .u8 0) 1 info5 rfl (by decide) (by omega) 0 (ok := fun _ => True) (okp := fun _ => True) rfl (fun _ hk => hk) trivial (by omega) (by omega) (Below.refl _ _) (Nat.le_refl _) ?_; intro v217 w6 ho hb hg_ hnew_; clear hg_ hnew_)
  simp only [Int.reduceToNat] at ho
  obtain ⟨A6, c6, rfl⟩ := Kd.R_slice ho
  have HB6 := Aside0.mk (HB5.out.trans (hb.mono HB5.out.size))
  have hr6 := Kd.R_reads' ho
  have hE := head_Empty.calls A6 c6 (List.replicate 512 0) true w6 hr6.2.2 hr6.2.1 (by unfold head_Empty.f; rw [ex_empty])
  clear hb ho hr6
  go_wp2_with fail
  refine hE.mono ?_
  rintro e w7 ⟨rfl, hb7⟩
  go_wp2
  go_ret
  exact ⟨rfl, HB6.out.trans (hb7.mono HB6.out.size)⟩
def sutlerlaw13_works.f : Option Bool := some true
theorem sutlerlaw13_works.calls (r : Bool) (w : World) (h : sutlerlaw13_works.f = some r) (hLD : Fields w) :
    Calls Tryd.prog 17 #[] w fun e w' => e = .returned (.bool r) ∧ Below w.heap.size w w' := by
  obtain rfl := Option.some.inj h
  exact works_calls w hLD
end Go.Proofs.YteblbggmchcijaaDoor.PAll
end
section
/- What the contracts by hand give at bytes. -/
namespace Go.Proofs.YteblbggmchcijaaDoor.PAll
open Go.RowKit Go.Lib Go.Proofs.YteblbggmchcijaaDoor Go.Proofs.YteblbggmchcijaaDoorW.PrintWords Go.Proofs.YteblbggmchcijaaDoorW.PrintLast Go.Proofs.YteblbggmchcijaaDoorW.PrintMore
set_option linter.unusedVariables false
set_option linter.unusedSimpArgs false

theorem head_Octal.at (l : List Int) (hl : l.length ≤ 140737488355328) (hb : AreBytes l) : head_Octal.f l = some (octP l) := by
  unfold head_Octal.f; rw [if_pos (by simp [byteB_iff.2 hb, hl])]
theorem head_Parse.at (l : List Int) (hb : AreBytes l) : head_Parse.f l = some (parseP l) := by
  unfold head_Parse.f; rw [if_pos (byteB_iff.2 hb)]
theorem head_Sum.at (l : List Int) (hl : l.length ≤ 140737488355328) (hb : AreBytes l) : head_Sum.f l = some (sumTo l l.length) := by
  unfold head_Sum.f; rw [if_pos (by simp [byteB_iff.2 hb, hl])]
theorem wf_byte {y : Int} (h : (Lit.int .u8 y).wf = true) : 0 ≤ y ∧ y ≤ 255 := by
  simp [Lit.wf, show IntKind.u8.min = 0 from rfl, show IntKind.u8.max = 255 from rfl] at h
  exact h
theorem are_bytes {x : List Int} (h : ∀ y ∈ x, (Lit.int .u8 y).wf = true) : AreBytes x := fun y hy => wf_byte (h y hy)
theorem reach_le {n : Nat} (h : n * 1 ≤ reachBytes) : n ≤ 140737488351232 := by unfold reachBytes at h; omega
abbrev HG (x : ByteArray × ByteArray × Int × Int × Int) : Prop := x.1.size ≤ reachBytes ∧ x.2.1.size ≤ reachBytes ∧ (Lit.int .i64 x.2.2.1).wf = true ∧ (Lit.int .i64 x.2.2.2.1).wf = true ∧ (Lit.int .u8 x.2.2.2.2).wf = true
end Go.Proofs.YteblbggmchcijaaDoor.PAll
end
section
/- The reference's parted, octal, put and Print are head's. -/
namespace Go.Proofs.YteblbggmchcijaaDoor.PAll
open Go.RowKit Go.Lib Go.Proofs.YteblbggmchcijaaDoor Go.Proofs.YteblbggmchcijaaDoorW.PrintWords Go.Proofs.YteblbggmchcijaaDoorW.PrintLast Go.Proofs.YteblbggmchcijaaDoorW.PrintMore
set_option linter.unusedVariables false
set_option linter.unusedSimpArgs false

def trip (p : Parted) : ByteArray × ByteArray × Bool := (p.pre, p.nam, p.ok)
theorem partIdx_far (s : ByteArray) (i : Nat) (h : 100 < s.size - i - 1) : partIdx s i = none := by
  cases i with
  | zero => rfl
  | succ j => unfold partIdx; rw [if_neg (by omega)]
theorem part_at (s : ByteArray) (hs : s.size ≤ 140737488355328) : ∀ i : Nat, i + 2 ≤ s.size → Ev (fun k => sutlerref13_parted.l0 k s (i : Int)) (trip (partedAt s (partIdx s i)))
  | 0, hi => by
    refine Ev.succ ?_
    simp only [sutlerref13_parted.l0]
    exact Ev.neg (by omega) (Ev.val _)
  | i + 1, hi => by
    have w1 : wrap64 (((i + 1 : Nat) : Int) - 1) = (i : Int) := by unfold wrap64; omega
    have w2 : wrap64 ((wrap64 ((s.size : Int) - ((i + 1 : Nat) : Int))) - 1) = (s.size : Int) - (i + 1) - 1 := by unfold wrap64; omega
    have w3 : wrap64 (((i + 1 : Nat) : Int) + 1) = ((i + 2 : Nat) : Int) := by unfold wrap64; omega
    have ih := part_at s hs i (by omega)
    refine Ev.succ ?_
    simp only [sutlerref13_parted.l0]
    refine Ev.pos (by omega) (Ev.pos (by omega) (Ev.pos (by omega) ?_))
    rw [w1, w2, w3]
    unfold partIdx
    by_cases h100 : s.size - (i + 1) - 1 ≤ 100
    · rw [if_pos h100]
      by_cases h47 : bt s ((i + 1 : Nat) : Int) = 47
      · refine Ev.pos h47 ?_
        by_cases h155 : i + 1 ≤ 155
        · rw [if_pos (⟨h47, h155⟩ : bt s ((i + 1 : Nat) : Int) = 47 ∧ i + 1 ≤ 155)]
          refine Ev.pos (by omega) (Ev.pos (by omega) (Ev.pos (by omega) (Ev.pos (by omega) (Ev.pos (by omega) (Ev.pos (by omega) ?_)))))
          exact Ev.val _
        · rw [if_neg (fun h : bt s ((i + 1 : Nat) : Int) = 47 ∧ i + 1 ≤ 155 => h155 h.2)]
          exact Ev.neg (by omega) ih
      · rw [if_neg (fun h : bt s ((i + 1 : Nat) : Int) = 47 ∧ i + 1 ≤ 155 => h47 h.1)]
        exact Ev.neg h47 ih
    · rw [if_neg h100]
      rw [partIdx_far s i (by omega)] at ih
      by_cases h47 : bt s ((i + 1 : Nat) : Int) = 47
      · refine Ev.pos h47 ?_
        by_cases h155 : i + 1 ≤ 155
        · exact Ev.pos (by omega) (Ev.pos (by omega) (Ev.neg (by omega) ih))
        · exact Ev.neg (by omega) ih
      · exact Ev.neg h47 ih
theorem toList_size (s : ByteArray) : s.toList.length = s.size := by rw [ByteArray.toList_eq]; exact Array.length_toList
theorem parted_ref (s : ByteArray) (hs : s.size ≤ 140737488355328) : Ev (fun k => sutlerref13_parted.f k s) (trip (parted s)) := by
  unfold sutlerref13_parted.f parted
  have hz := toList_size s
  by_cases h0 : s.toList = []
  · rw [h0] at hz
    have hs0 : s.size = 0 := by simpa using hz.symm
    rw [if_pos (by omega)]
    refine Ev.pos h0 ?_
    have e : s = ⟨#[]⟩ := by
      cases s with
      | mk d => congr 1; exact Array.eq_empty_of_size_eq_zero hs0
    subst e
    have e2 : trip ⟨⟨#[]⟩, ⟨#[]⟩, !(⟨#[]⟩ : ByteArray).toList.isEmpty⟩ = (⟨#[]⟩, ⟨#[]⟩, false) := by unfold trip; rw [ByteArray.toList_eq]; rfl
    rw [e2]
    exact Ev.val _
  · refine Ev.neg h0 ?_
    by_cases h100 : s.size ≤ 100
    · rw [if_pos h100]
      refine Ev.pos (by omega) ?_
      have : (!s.toList.isEmpty) = true := by
        cases hh : s.toList with
        | nil => exact absurd hh h0
        | cons a l => rfl
      unfold trip
      rw [this]
      exact Ev.val _
    · rw [if_neg h100]
      refine Ev.neg (by omega) ?_
      have w1 : wrap64 ((s.size : Int) - 1) = ((s.size - 1 : Nat) : Int) := by unfold wrap64; omega
      have w2 : wrap64 (((s.size - 1 : Nat) : Int) - 1) = ((s.size - 2 : Nat) : Int) := by unfold wrap64; omega
      have w3 : wrap64 ((wrap64 ((s.size : Int) - ((s.size - 1 : Nat) : Int))) - 1) = 0 := by unfold wrap64; omega
      rw [w1]
      have ih := part_at s hs (s.size - 2) (by omega)
      refine Ev.succ ?_
      simp only [sutlerref13_parted.l0]
      refine Ev.pos (by omega) (Ev.pos (by omega) (Ev.pos (by omega) ?_))
      rw [w2, w3]
      by_cases h47 : bt s ((s.size - 1 : Nat) : Int) = 47
      · refine Ev.pos h47 ?_
        by_cases h155 : s.size - 1 ≤ 155
        · exact Ev.pos (by omega) (Ev.neg (by omega) ih)
        · exact Ev.neg (by omega) ih
      · exact Ev.neg h47 ih

theorem oct_w1 (y : Nat) (h : y < 8589934592) : wrap64 (Int.tdiv (y : Int) 8) = ((y / 8 : Nat) : Int) := by
  rw [Int.tdiv_eq_ediv_of_nonneg (Int.natCast_nonneg _)]
  unfold wrap64; omega
theorem oct_w2 (y : Nat) : (wrap64 (48 + (Int.tmod (y : Int) 8))) % 256 = ((48 + y % 8 : Nat) : Int) := by
  rw [Int.tmod_eq_emod_of_nonneg (Int.natCast_nonneg _)]
  unfold wrap64; omega
theorem str_one (y : Nat) : strOfNums [((y : Nat) : Int)] = ⟨#[UInt8.ofNat y]⟩ := by
  unfold strOfNums; simp
theorem octS_cons (x i : Nat) : strOfNums [((48 + x / 8 ^ i % 8 : Nat) : Int)] ++ octS x i = octS x (i + 1) := by
  rw [str_one]
  unfold octS
  rw [lows]
  apply ByteArray.ext
  simp
theorem octal_step (x n i : Nat) (hx : x < 8589934592) (hn : n ≤ 1000) (hi : i < n) (y y' : Nat) (s s' : ByteArray) (hy : y ≤ x) (hy' : y' = y / 8) (hs : s.size = i) (hs' : strOfNums [((48 + y % 8 : Nat) : Int)] ++ s = s') (r : ByteArray)
    (h : Ev (fun k => sutlerref13_octal.l0 k (y' : Int) (n : Int) s' ((i + 1 : Nat) : Int)) r) : Ev (fun k => sutlerref13_octal.l0 k (y : Int) (n : Int) s (i : Int)) r := by
  have w1 := oct_w1 y (by omega)
  have w2 := oct_w2 y
  have w3 : wrap64 ((i : Int) + 1) = ((i + 1 : Nat) : Int) := by unfold wrap64; omega
  subst hy'
  refine Ev.succ ?_
  simp only [sutlerref13_octal.l0, Option.bind_some]
  refine Ev.pos (by omega) ?_
  rw [w2, w1, w3, hs']
  refine Ev.pos ?_ h
  rw [strOfNums_size, hs]; simp; omega
theorem octal_at (x n : Nat) (hx : x < 8589934592) (hn : n ≤ 1000) (m : Nat) : ∀ (i : Nat), n - i = m → i ≤ n → Ev (fun k => sutlerref13_octal.l0 k ((x / 8 ^ i : Nat) : Int) (n : Int) (octS x i) (i : Int)) (octS x n) := by
  induction m with
  | zero =>
    intro i hm hi
    obtain rfl : i = n := by omega
    refine Ev.succ ?_
    simp only [sutlerref13_octal.l0]
    exact Ev.neg (by omega) (Ev.val _)
  | succ m ih =>
    intro i hm hi
    exact octal_step x n i hx hn (by omega) _ _ _ _ (Nat.div_le_self _ _) (by rw [Nat.pow_succ, ← Nat.div_div_eq_div_mul]) (octS_size _ _) (octS_cons x i) _ (ih (i + 1) (by omega) (by omega))
theorem octal_str (x n : Nat) (hx : x < 8589934592) (hn : n ≤ 1000) : Ev (fun k => sutlerref13_octal.f k (x : Int) (n : Int)) (octS x n) := by
  have := octal_at x n hx hn _ 0 rfl (by omega)
  rw [Nat.pow_zero, Nat.div_one] at this
  exact this

theorem put_at (X : List Int) (a : Nat) (s : ByteArray) (h : a + s.size ≤ X.length) (hX : X.length ≤ 140737488355328) : ∀ (m i : Nat), s.size - i = m → i ≤ s.size → Ev (fun k => sutlerref13_put.l0 k (X.take a ++ (YteblbggmchcijaaDoorW.PrintWords.bytesOf s).take i ++ X.drop (a + i)) (a : Int) s (i : Int)) (putL X a s)
  | 0, i, hm, hi => by
    obtain rfl : i = s.size := by omega
    refine Ev.succ ?_
    simp only [sutlerref13_put.l0]
    refine Ev.neg (by omega) ?_
    have : (YteblbggmchcijaaDoorW.PrintWords.bytesOf s).take s.size = YteblbggmchcijaaDoorW.PrintWords.bytesOf s := List.take_of_length_le (by rw [YteblbggmchcijaaDoorW.PrintWords.bytesOf_length]; omega)
    rw [this]
    exact Ev.val _
  | m + 1, i, hm, hi => by
    have hlt : i < s.size := by omega
    have hbl := YteblbggmchcijaaDoorW.PrintWords.bytesOf_length s
    have w1 : wrap64 ((a : Int) + (i : Int)) = ((a + i : Nat) : Int) := by unfold wrap64; omega
    have w3 : wrap64 ((i : Int) + 1) = ((i + 1 : Nat) : Int) := by unfold wrap64; omega
    have hlen : (X.take a ++ (YteblbggmchcijaaDoorW.PrintWords.bytesOf s).take i ++ X.drop (a + i)).length = X.length := by
      rw [List.length_append, List.length_append, List.length_take, List.length_take, List.length_drop]; omega
    have hset : (X.take a ++ (YteblbggmchcijaaDoorW.PrintWords.bytesOf s).take i ++ X.drop (a + i)).set (a + i) (bt s (i : Int)) = X.take a ++ (YteblbggmchcijaaDoorW.PrintWords.bytesOf s).take (i + 1) ++ X.drop (a + (i + 1)) := by
      have e1 : (X.take a ++ (YteblbggmchcijaaDoorW.PrintWords.bytesOf s).take i).length = a + i := by
        rw [List.length_append, List.length_take, List.length_take]; omega
      rw [List.set_append_right _ _ (by omega), e1, Nat.sub_self]
      have e2 : X.drop (a + i) = X[a + i]'(by omega) :: X.drop (a + i + 1) := List.drop_eq_getElem_cons (by omega)
      rw [e2, List.set_cons_zero, List.take_succ_eq_append_getElem (by omega)]
      have e3 : (YteblbggmchcijaaDoorW.PrintWords.bytesOf s)[i]'(by omega) = bt s (i : Int) := by rw [← rd_bytesOf, rd_lt (by omega)]
      rw [e3]
      simp [Nat.add_assoc]
    refine Ev.succ ?_
    simp only [sutlerref13_put.l0]
    refine Ev.pos (by omega) (Ev.pos (by omega) ?_)
    rw [w1, w3, Int.toNat_natCast, hset, hlen]
    refine Ev.pos (by omega) (Ev.pos (by omega) ?_)
    exact put_at X a s h hX m (i + 1) (by omega) (by omega)
theorem put_ref (X : List Int) (a : Nat) (s : ByteArray) (h : a + s.size ≤ X.length) (hX : X.length ≤ 140737488355328) : Ev (fun k => sutlerref13_put.f k X (a : Int) s) (putL X a s) := by
  have := put_at X a s h hX _ 0 rfl (by omega)
  simpa [sutlerref13_put.f] using this
end Go.Proofs.YteblbggmchcijaaDoor.PAll
end
section
/- The reference's Print is head.Print. -/
namespace Go.Proofs.YteblbggmchcijaaDoor.PAll
open Go.RowKit Go.Lib Go.Proofs.YteblbggmchcijaaDoor Go.Proofs.YteblbggmchcijaaDoorW.PrintWords Go.Proofs.YteblbggmchcijaaDoorW.PrintLast Go.Proofs.YteblbggmchcijaaDoorW.PrintMore
set_option linter.unusedVariables false
set_option linter.unusedSimpArgs false

theorem takeWhile_nz : ∀ l : List Int, (l.takeWhile (· ≠ 0) = l ↔ (0 : Int) ∉ l)
  | [] => by simp
  | a :: l => by
    rw [List.takeWhile_cons]
    by_cases h : a = 0
    · simp [h]
    · have := takeWhile_nz l
      simp [h] at this ⊢
      rw [this]
      exact ⟨fun h1 => ⟨fun e => h e.symm, h1⟩, fun h1 => h1.2⟩
theorem takeWhile_short {α} (p : α → Bool) : ∀ l : List α, (l.takeWhile p).length = l.length → l.takeWhile p = l
  | [], _ => rfl
  | a :: l, h => by
    rw [List.takeWhile_cons] at h ⊢
    split
    · rename_i ha
      rw [if_pos ha] at h
      rw [takeWhile_short p l (by simpa using h)]
    · rename_i ha
      rw [if_neg ha] at h
      simp at h
theorem str_bytes (s : ByteArray) : strOfNums (YteblbggmchcijaaDoorW.PrintWords.bytesOf s) = s := by
  apply ByteArray.ext
  unfold strOfNums YteblbggmchcijaaDoorW.PrintWords.bytesOf
  rw [List.map_map]
  have : ((fun n : Int => UInt8.ofNat n.toNat) ∘ fun b : UInt8 => (b.toNat : Int)) = id := by funext b; simp
  rw [this, List.map_id]
theorem zero_mem (s : ByteArray) : (0 : Int) ∈ YteblbggmchcijaaDoorW.PrintWords.bytesOf s ↔ (0 : UInt8) ∈ s.data.toList := by
  unfold YteblbggmchcijaaDoorW.PrintWords.bytesOf
  rw [List.mem_map]
  constructor
  · rintro ⟨b, hb, h⟩
    have : b = 0 := by
      apply UInt8.toNat_inj.1
      simp; omega
    rw [← this]; exact hb
  · intro h
    exact ⟨0, h, rfl⟩
theorem zero_at (s : ByteArray) (hs : s.size ≤ 140737488355328) : sutlerref13_zero.f s = some (decide ((0 : UInt8) ∈ s.data.toList)) := by
  unfold sutlerref13_zero.f
  rw [if_pos hs]
  congr 1
  by_cases h : (0 : UInt8) ∈ s.data.toList
  · rw [decide_eq_true h]
    have h0 := (zero_mem s).2 h
    have hn : ¬ (textL (YteblbggmchcijaaDoorW.PrintWords.bytesOf s)).toList = s.toList := by
      intro e
      have hl := congrArg List.length e
      rw [toList_size, toList_size] at hl
      unfold textL at hl
      rw [strOfNums_size, ← YteblbggmchcijaaDoorW.PrintWords.bytesOf_length] at hl
      exact ((takeWhile_nz _).1 (takeWhile_short _ _ hl)) h0
    simp [hn]
  · rw [decide_eq_false h]
    have h0 : (0 : Int) ∉ YteblbggmchcijaaDoorW.PrintWords.bytesOf s := fun e => h ((zero_mem s).1 e)
    unfold textL
    rw [(takeWhile_nz _).2 h0, str_bytes]
    simp
theorem hasZero_mem (s : ByteArray) : hasZero s = decide ((0 : UInt8) ∈ s.data.toList) := by
  unfold hasZero
  rw [decide_eq_decide]
  have hg := indexByte_ge s.data.toList 0
  constructor
  · intro h
    obtain ⟨o, ho⟩ := Int.eq_ofNat_of_zero_le h
    exact List.mem_of_getElem? (indexByte_some ho).1
  · intro h
    by_cases e : indexByte s.data.toList 0 = -1
    · obtain ⟨k, hk, hx⟩ := List.getElem_of_mem h
      exact absurd (by rw [List.getElem?_eq_getElem hk, hx]) (indexByte_none e k)
    · omega
theorem hasZero_append (a b : ByteArray) : hasZero (a ++ b) = (decide ((0 : UInt8) ∈ a.data.toList) || decide ((0 : UInt8) ∈ b.data.toList)) := by
  rw [hasZero_mem, Bool.eq_iff_iff]
  simp

theorem putL_bytes {X : List Int} (h : AreBytes X) (a : Nat) (s : ByteArray) : AreBytes (putL X a s) := by
  intro x hx
  unfold putL at hx
  rw [List.mem_append, List.mem_append] at hx
  rcases hx with (hx | hx) | hx
  · exact h x (List.mem_of_mem_take hx)
  · unfold YteblbggmchcijaaDoorW.PrintWords.bytesOf at hx
    obtain ⟨b, hb, rfl⟩ := List.mem_map.1 hx
    have := b.toNat_lt
    omega
  · exact h x (List.mem_of_mem_drop hx)
theorem headX_bytes (pre nam link : ByteArray) (mode size : Nat) (kd : ByteArray) : AreBytes (headX pre nam link mode size kd) := by
  unfold headX
  repeat apply putL_bytes
  intro x hx
  rw [List.mem_replicate] at hx
  omega
theorem put512 {X : List Int} (h : X.length = 512) {a : Nat} {s : ByteArray} (ha : a + s.size ≤ 512) : (putL X a s).length = 512 := by rw [putL_length X a s (by omega)]; exact h
theorem ustar_size : ustar.size = 8 := rfl
theorem one_size (k : UInt8) : (⟨#[k]⟩ : ByteArray).size = 1 := rfl
theorem headX_len (pre nam link : ByteArray) (mode size : Nat) (k : UInt8) (hp : pre.size ≤ 155) (hn : nam.size ≤ 100) (hl : link.size ≤ 100) : (headX pre nam link mode size ⟨#[k]⟩).length = 512 := by
  have u := ustar_size
  have k1 := one_size k
  have o7 := octS_size mode 7
  have o7' := octS_size 0 7
  have o11 := octS_size size 11
  have o11' := octS_size 0 11
  unfold headX
  exact put512 (put512 (put512 (put512 (put512 (put512 (put512 (put512 (put512 (put512 List.length_replicate (by omega)) (by omega)) (by omega)) (by omega)) (by omega)) (by omega)) (by omega)) (by omega)) (by omega)) (by omega)
theorem set_putL (X : List Int) (a : Nat) (ha : a < X.length) (k : UInt8) : X.set a (k.toNat : Int) = putL X a ⟨#[k]⟩ := by
  have e : YteblbggmchcijaaDoorW.PrintWords.bytesOf ⟨#[k]⟩ = [(k.toNat : Int)] := rfl
  unfold putL
  rw [e, one_size, List.set_eq_take_append_cons_drop, if_pos ha]
  simp
theorem sumS_size (n : Nat) : (sumS n).size = 8 := by
  unfold sumS
  rw [ByteArray.size_append, octS_size]; rfl

theorem print_j0 (a0 a1 pre nam : ByteArray) (m s : Nat) (k : UInt8) (hp : pre.size ≤ 155) (hn : nam.size ≤ 100) (hl : a1.size ≤ 100) (hm : m ≤ 4095) (hs : s ≤ 262144) :
    Ev (fun n => sutlerref13_Print.j0 n pre nam false a0 a1 (m : Int) (s : Int) (k.toNat : Int)) (headB pre nam a1 m s ⟨#[k]⟩, 0) := by
  have u := ustar_size
  have k1 := one_size k
  have o7 := octS_size m 7
  have o7' := octS_size 0 7
  have o11 := octS_size s 11
  have o11' := octS_size 0 11
  have hXl := headX_len pre nam a1 m s k hp hn hl
  have hXb := headX_bytes pre nam a1 m s ⟨#[k]⟩
  have g0 : (List.replicate 512 (0 : Int)).length = 512 := List.length_replicate
  refine Ev.succ ?_
  simp only [sutlerref13_Print.j0, Bool.false_eq_true, if_false, Option.bind_some]
  refine Ev.pos (by omega) ?_
  have g1 := put512 g0 (a := 0) (s := nam) (by omega)
  refine Ev.bind (put_ref _ 0 _ (by omega) (by omega)) ?_
  refine Ev.bind (octal_str m 7 (by omega) (by omega)) ?_
  have g2 := put512 g1 (a := 100) (s := octS m 7) (by omega)
  refine Ev.bind (put_ref _ 100 _ (by omega) (by omega)) ?_
  refine Ev.bind (octal_str 0 7 (by omega) (by omega)) ?_
  have g3 := put512 g2 (a := 108) (s := octS 0 7) (by omega)
  refine Ev.bind (put_ref _ 108 _ (by omega) (by omega)) ?_
  refine Ev.bind (octal_str 0 7 (by omega) (by omega)) ?_
  have g4 := put512 g3 (a := 116) (s := octS 0 7) (by omega)
  refine Ev.bind (put_ref _ 116 _ (by omega) (by omega)) ?_
  refine Ev.bind (octal_str s 11 (by omega) (by omega)) ?_
  have g5 := put512 g4 (a := 124) (s := octS s 11) (by omega)
  refine Ev.bind (put_ref _ 124 _ (by omega) (by omega)) ?_
  refine Ev.bind (octal_str 0 11 (by omega) (by omega)) ?_
  have g6 := put512 g5 (a := 136) (s := octS 0 11) (by omega)
  refine Ev.bind (put_ref _ 136 _ (by omega) (by omega)) ?_
  refine Ev.pos (by rw [List.length_replicate]; omega) ?_
  rw [show Int.toNat (156 : Int) = 156 from rfl, set_putL _ 156 (by omega) k]
  have g7 := put512 g6 (a := 156) (s := ⟨#[k]⟩) (by omega)
  have g8 := put512 g7 (a := 157) (s := a1) (by omega)
  refine Ev.bind (put_ref _ 157 _ (by omega) (by omega)) ?_
  have g9 := put512 g8 (a := 257) (s := ustar) (by omega)
  refine Ev.bind (put_ref _ 257 ustar (by omega) (by omega)) ?_
  refine Ev.bind (put_ref _ 345 pre (by omega) (by omega)) ?_
  show Ev (fun n => (sutlerref13_Sum.f n (headX pre nam a1 m s ⟨#[k]⟩)).bind fun t252 => (sutlerref13_octal.f n t252 6).bind fun t253 => if t253.size + 2 ≤ 9223372036854775807 then (sutlerref13_put.f n (headX pre nam a1 m s ⟨#[k]⟩) 148 (t253 ++ (⟨#[0, 32]⟩ : ByteArray))).bind fun t254 => some (t254, 0) else none) _
  have hsum := sum_ref (headX pre nam a1 m s ⟨#[k]⟩) (by omega) hXb
  rw [hXl] at hsum
  have hr := sumTo_range hXb 512
  refine Ev.bind hsum ?_
  obtain ⟨sm, hsm⟩ := Int.eq_ofNat_of_zero_le hr.1
  have e : (sumTo (headX pre nam a1 m s ⟨#[k]⟩) 512).toNat = sm := by omega
  unfold headB
  rw [e, hsm]
  refine Ev.bind (octal_str sm 6 (by omega) (by omega)) ?_
  refine Ev.pos (by rw [octS_size]; omega) ?_
  refine Ev.bind (put_ref _ 148 (sumS sm) (by rw [sumS_size]; omega) (by omega)) ?_
  exact Ev.val _
theorem print_j0t (pre nam a0 a1 : ByteArray) (m s k : Int) : Ev (fun n => sutlerref13_Print.j0 n pre nam true a0 a1 m s k) ([], 2) := by
  refine Ev.succ ?_
  simp only [sutlerref13_Print.j0, if_true]
  exact Ev.val _
theorem print_ref (a0 a1 : ByteArray) (m s k : Int) (h0 : a0.size ≤ 140737488355328) (h1 : a1.size ≤ 140737488355328) (hk0 : 0 ≤ k) (hk : k ≤ 255) :
    Ev (fun n => sutlerref13_Print.f n a0 a1 m s k) (if badHead a0 a1 m s k then ([], 2) else (headB (parted a0).pre (parted a0).nam a1 m.toNat s.toNat ⟨#[UInt8.ofNat k.toNat]⟩, 0)) := by
  unfold sutlerref13_Print.f
  refine Ev.bind (parted_ref a0 h0) ?_
  simp only [trip]
  have bad : badHead a0 a1 m s k = true → Ev (fun n => sutlerref13_Print.j0 n (parted a0).pre (parted a0).nam true a0 a1 m s k) (if badHead a0 a1 m s k then ([], 2) else (headB (parted a0).pre (parted a0).nam a1 m.toNat s.toNat ⟨#[UInt8.ofNat k.toNat]⟩, 0)) := fun h => by
    rw [if_pos h]; exact print_j0t _ _ _ _ _ _ _
  by_cases c1 : (parted a0).ok = true
  rotate_left
  · exact Ev.neg c1 (bad (by unfold badHead; simp [c1]))
  refine Ev.pos c1 ?_
  by_cases c2 : 100 < a1.size
  · exact Ev.pos (by omega) (bad (by unfold badHead; simp [c2]))
  refine Ev.neg (by omega) ?_
  rw [zero_at a0 h0, zero_at a1 h1]
  simp only [Option.bind_some]
  have hz := hasZero_append a0 a1
  by_cases c3 : (0 : UInt8) ∈ a0.data.toList
  · exact Ev.pos (decide_eq_true c3) (bad (by unfold badHead; rw [hz]; simp [c3]))
  refine Ev.neg (by simp [c3]) ?_
  by_cases c4 : (0 : UInt8) ∈ a1.data.toList
  · exact Ev.pos (decide_eq_true c4) (bad (by unfold badHead; rw [hz]; simp [c4]))
  refine Ev.neg (by simp [c4]) ?_
  by_cases c5 : m < 0
  · exact Ev.pos c5 (bad (by unfold badHead; simp [c5]))
  refine Ev.neg c5 ?_
  by_cases c6 : m > 4095
  · exact Ev.pos c6 (bad (by unfold badHead; have : 4095 < m := c6; simp [this]))
  refine Ev.neg c6 ?_
  by_cases c7 : s < 0
  · exact Ev.pos c7 (bad (by unfold badHead; simp [c7]))
  refine Ev.neg c7 ?_
  by_cases c8 : s > 262144
  · exact Ev.pos c8 (bad (by unfold badHead; have : 262144 < s := c8; simp [this]))
  refine Ev.neg c8 ?_
  by_cases c9 : k = 0
  · rw [show (k == 0) = true by simp [c9]]
    exact bad (by unfold badHead; simp [c9])
  rw [show (k == 0) = false by simp [c9]]
  have hb : badHead a0 a1 m s k = false := by
    unfold badHead
    rw [hz]
    simp [c1, c2, c3, c4, c5, c7, c9]
    omega
  rw [hb]
  obtain ⟨z1, z2, z3⟩ := parted_sizes a0 c1
  have hkd : (UInt8.ofNat k.toNat).toNat = k.toNat := by rw [UInt8.toNat_ofNat']; omega
  have := print_j0 a0 a1 (parted a0).pre (parted a0).nam m.toNat s.toNat (UInt8.ofNat k.toNat) z1 z2 (by omega) (by omega) (by omega)
  rw [hkd, Int.toNat_of_nonneg (by omega), Int.toNat_of_nonneg (by omega), Int.toNat_of_nonneg hk0] at this
  exact this
theorem head_Print.at (a0 a1 : ByteArray) (m s k : Int) (h0 : a0.size ≤ 140737488355328) (h1 : a1.size ≤ 140737488355328) (hk0 : 0 ≤ k) (hk : k ≤ 255) :
    head_Print.f a0 a1 m s k = some (if badHead a0 a1 m s k then ([], 2) else (headB (parted a0).pre (parted a0).nam a1 m.toNat s.toNat ⟨#[UInt8.ofNat k.toNat]⟩, 0)) := by
  unfold head_Print.f
  rw [if_pos (by simp [h0, h1, hk0, hk])]
  split <;> rfl
theorem headB_len (pre nam link : ByteArray) (mode size : Nat) (k : UInt8) (hp : pre.size ≤ 155) (hn : nam.size ≤ 100) (hl : link.size ≤ 100) : (headB pre nam link mode size ⟨#[k]⟩).length = 512 := by
  unfold headB
  exact put512 (headX_len pre nam link mode size k hp hn hl) (by rw [sumS_size]; omega)
end Go.Proofs.YteblbggmchcijaaDoor.PAll
end
section
/- The fields of what is printed. -/
namespace Go.Proofs.YteblbggmchcijaaDoor.PAll
open Go.RowKit Go.Lib Go.Proofs.YteblbggmchcijaaDoor Go.Proofs.YteblbggmchcijaaDoorW.PrintWords Go.Proofs.YteblbggmchcijaaDoorW.PrintLast Go.Proofs.YteblbggmchcijaaDoorW.PrintMore
set_option linter.unusedVariables false
set_option linter.unusedSimpArgs false

abbrev bo (s : ByteArray) : List Int := YteblbggmchcijaaDoorW.PrintWords.bytesOf s
theorem bo_len (s : ByteArray) : (bo s).length = s.size := YteblbggmchcijaaDoorW.PrintWords.bytesOf_length s
theorem putL_get (X : List Int) (a : Nat) (s : ByteArray) (h : a + s.size ≤ X.length) (i : Nat) : (putL X a s)[i]? = if i < a then X[i]? else if i < a + s.size then (bo s)[i - a]? else X[i]? := by
  have hl := bo_len s
  unfold putL
  by_cases h1 : i < a
  · rw [if_pos h1, List.append_assoc, List.getElem?_append_left (by rw [List.length_take]; omega), List.getElem?_take_of_lt h1]
  · rw [if_neg h1]
    by_cases h2 : i < a + s.size
    · rw [if_pos h2, List.append_assoc, List.getElem?_append_right (by rw [List.length_take]; omega), List.length_take, Nat.min_eq_left (by omega), List.getElem?_append_left (by show _ < (bo s).length; omega)]
    · rw [if_neg h2, List.getElem?_append_right (by rw [List.length_append, List.length_take]; show _ + (bo s).length ≤ _; omega), List.length_append, List.length_take, Nat.min_eq_left (by omega), List.getElem?_drop]
      congr 1
      show a + s.size + (i - (a + (bo s).length)) = i
      omega
theorem fld_other (X : List Int) (a : Nat) (s : ByteArray) (h : a + s.size ≤ X.length) (f : Nat) (hd : a + s.size ≤ fldAt f ∨ fldAt f + fldSz f ≤ a) : fldL (putL X a s) f = fldL X f := by
  unfold fldL
  apply List.ext_getElem?
  intro i
  rw [List.getElem?_take, List.getElem?_take]
  by_cases hi : i < fldSz f
  · rw [if_pos hi, if_pos hi, List.getElem?_drop, List.getElem?_drop, putL_get X a s h]
    split
    · rfl
    · rw [if_neg (by omega)]
  · rw [if_neg hi, if_neg hi]
theorem fld_here (X : List Int) (a : Nat) (s : ByteArray) (h : a + s.size ≤ X.length) (f : Nat) (ha : fldAt f = a) (hs : s.size ≤ fldSz f) : fldL (putL X a s) f = bo s ++ (fldL X f).drop s.size := by
  have hl := bo_len s
  unfold fldL
  apply List.ext_getElem?
  intro i
  rw [List.getElem?_take]
  by_cases h2 : i < s.size
  · rw [if_pos (by omega), List.getElem?_drop, putL_get X a s h, if_neg (by omega), if_pos (by omega), List.getElem?_append_left (by omega)]
    congr 1; omega
  · rw [List.getElem?_append_right (by omega), hl, List.getElem?_drop (xs := List.take _ _), List.getElem?_take, List.getElem?_drop]
    by_cases hi : i < fldSz f
    · rw [if_pos hi, if_pos (by omega), putL_get X a s h, if_neg (by omega), if_neg (by omega), List.getElem?_drop]
      congr 1; omega
    · rw [if_neg hi, if_neg (by omega)]
theorem fld_zero (f : Nat) (hf : f < 11) : fldL (List.replicate 512 0) f = List.replicate (fldSz f) 0 := by
  have := fld_le f hf
  unfold fldL
  rw [List.drop_replicate, List.take_replicate]
  congr 1; omega

theorem octGo_lows (x : Nat) (rest : List Int) : ∀ (j i : Nat) (n : Nat), i + j ≤ 11 → octGo ((lows x j).map (fun b => (b.toNat : Int)) ++ rest) i (n : Int) = octGo rest (i + j) ((n * 8 ^ j + x % 8 ^ j : Nat) : Int)
  | 0, i, n, h => by simp [lows, Nat.mod_one]
  | j + 1, i, n, h => by
    rw [lows, List.map_cons, List.cons_append]
    have hd : ((UInt8.ofNat (48 + x / 8 ^ j % 8)).toNat : Int) = 48 + ((x / 8 ^ j % 8 : Nat) : Int) := by
      rw [UInt8.toNat_ofNat']
      have : x / 8 ^ j % 8 < 8 := Nat.mod_lt _ (by decide)
      generalize x / 8 ^ j % 8 = d at *
      omega
    have h8 : x / 8 ^ j % 8 < 8 := Nat.mod_lt _ (by decide)
    have e : (8 * (n : Int) + (48 + ((x / 8 ^ j % 8 : Nat) : Int) - 48)) = ((8 * n + x / 8 ^ j % 8 : Nat) : Int) := by
      generalize x / 8 ^ j % 8 = d at *
      omega
    have e2 : (8 * n + x / 8 ^ j % 8) * 8 ^ j + x % 8 ^ j = n * 8 ^ (j + 1) + x % 8 ^ (j + 1) := by
      rw [Nat.mod_pow_succ, Nat.pow_succ, Nat.add_mul, Nat.mul_comm (8 ^ j) (x / 8 ^ j % 8), ← Nat.mul_assoc, Nat.mul_comm n (8 ^ j), Nat.mul_comm 8 n]
      generalize x / 8 ^ j % 8 * 8 ^ j = u
      generalize x % 8 ^ j = v
      rw [show n * 8 * 8 ^ j = 8 ^ j * n * 8 by rw [Nat.mul_comm (8 ^ j) n, Nat.mul_assoc, Nat.mul_assoc, Nat.mul_comm 8]]
      omega
    rw [octGo, hd]
    rw [if_pos (by generalize x / 8 ^ j % 8 = d at *; omega), e, octGo_lows x rest j (i + 1) _ (by omega), e2, show i + 1 + j = i + (j + 1) by omega]
theorem octP_lows (x d : Nat) (rest : List Int) (hd : 0 < d) (hd2 : d ≤ 11) (hx : x < 8 ^ d) (hr : rest ≠ []) (hr2 : rest.all (fun b => b = 32 ∨ b = 0) = true) : octP (bo (octS x d) ++ rest) = ((x : Int), 0) := by
  have e : bo (octS x d) = (lows x d).map (fun b => (b.toNat : Int)) := rfl
  have hw : ((lows x d).map (fun b => (b.toNat : Int)) ++ rest).dropWhile (fun b => b = 32) = (lows x d).map (fun b => (b.toNat : Int)) ++ rest := by
    obtain ⟨j, rfl⟩ : ∃ j, d = j + 1 := ⟨d - 1, by omega⟩
    rw [lows, List.map_cons, List.cons_append, List.dropWhile_cons, if_neg]
    have : x / 8 ^ j % 8 < 8 := Nat.mod_lt _ (by decide)
    rw [UInt8.toNat_ofNat']
    generalize x / 8 ^ j % 8 = d at *
    simp; omega
  unfold octP
  rw [e, hw]
  have := octGo_lows x rest d 0 0 (by omega)
  simp only [Nat.zero_add, Nat.zero_mul] at this
  rw [Nat.mod_eq_of_lt hx] at this
  have z : ((0 : Nat) : Int) = 0 := rfl
  rw [z] at this
  rw [this]
  cases rest with
  | nil => exact absurd rfl hr
  | cons c l =>
    unfold octGo
    have hc : c = 32 ∨ c = 0 := by
      rw [List.all_cons, Bool.and_eq_true] at hr2
      simpa using hr2.1
    rw [if_neg (by omega), if_neg]
    rintro (h | h)
    · omega
    · exact h hr2
theorem textL_pad (s : ByteArray) (n : Nat) (hz : (0 : UInt8) ∉ s.data.toList) : textL (bo s ++ List.replicate n 0) = s := by
  have h0 : (0 : Int) ∉ bo s := fun e => hz ((zero_mem s).1 e)
  unfold textL
  have e : (bo s ++ List.replicate n (0 : Int)).takeWhile (· ≠ 0) = bo s := by
    rw [List.takeWhile_append_of_pos (fun x hx => by simp; intro h; exact h0 (h ▸ hx))]
    cases n with
    | zero => simp
    | succ n => simp [List.replicate_succ]
  rw [e]
  exact str_bytes s
theorem sumTo_putL (X : List Int) (s : ByteArray) (hs : s.size = 8) (h : 156 ≤ X.length) : ∀ n, sumTo (putL X 148 s) n = sumTo X n
  | 0 => rfl
  | n + 1 => by
    unfold sumTo
    rw [sumTo_putL X s hs h n]
    split
    · rfl
    · rename_i hc
      congr 1
      unfold rd
      rw [List.getD_eq_getElem?_getD, List.getD_eq_getElem?_getD, Int.toNat_natCast, putL_get X 148 s (by omega)]
      split
      · rfl
      · rw [if_neg (by omega)]
end Go.Proofs.YteblbggmchcijaaDoor.PAll
end
section
/- What is printed is parsed as it was; a byte turned is seen. -/
namespace Go.Proofs.YteblbggmchcijaaDoor.PAll
open Go.RowKit Go.Lib Go.Proofs.YteblbggmchcijaaDoor Go.Proofs.YteblbggmchcijaaDoorW.PrintWords Go.Proofs.YteblbggmchcijaaDoorW.PrintLast Go.Proofs.YteblbggmchcijaaDoorW.PrintMore
set_option linter.unusedVariables false
set_option linter.unusedSimpArgs false

theorem fo {X : List Int} (g : X.length = 512) (a : Nat) (s : ByteArray) (h : a + s.size ≤ 512) (f : Nat) (hd : a + s.size ≤ fldAt f ∨ fldAt f + fldSz f ≤ a) : fldL (putL X a s) f = fldL X f := fld_other X a s (by omega) f hd
theorem fh {X : List Int} (g : X.length = 512) (a : Nat) (s : ByteArray) (f n : Nat) (hx : fldL X f = List.replicate n 0) (ha : fldAt f = a) (hs : s.size ≤ fldSz f) (hf : f < 11) : fldL (putL X a s) f = bo s ++ List.replicate (n - s.size) 0 := by
  have := fld_le f hf
  rw [fld_here X a s (by omega) f ha hs, hx, List.drop_replicate]
structure Flds (b : List Int) (pre nam link : ByteArray) (m s : Nat) (k : UInt8) (sm : Nat) : Prop where
  f0 : fldL b 0 = bo nam ++ List.replicate (100 - nam.size) 0
  f1 : fldL b 1 = bo (octS m 7) ++ [0]
  f4 : fldL b 4 = bo (octS s 11) ++ [0]
  f6 : fldL b 6 = bo (octS sm 6) ++ [0, 32]
  f7 : fldL b 7 = [(k.toNat : Int)]
  f8 : fldL b 8 = bo link ++ List.replicate (100 - link.size) 0
  f9 : fldL b 9 = bo ustar
  f10 : fldL b 10 = bo pre ++ List.replicate (155 - pre.size) 0
theorem headB_flds (pre nam link : ByteArray) (m s : Nat) (k : UInt8) (hp : pre.size ≤ 155) (hn : nam.size ≤ 100) (hl : link.size ≤ 100) :
    Flds (headB pre nam link m s ⟨#[k]⟩) pre nam link m s k (sumTo (headX pre nam link m s ⟨#[k]⟩) 512).toNat := by
  have hXl := headX_len pre nam link m s k hp hn hl
  unfold headB
  generalize hsm : (sumTo (headX pre nam link m s ⟨#[k]⟩) 512).toNat = sm
  have u := ustar_size
  have k1 := one_size k
  have o7 := octS_size m 7
  have o7' := octS_size 0 7
  have o11 := octS_size s 11
  have o11' := octS_size 0 11
  have oz := sumS_size sm
  unfold headX at hXl ⊢
  clear hsm
  have g0 : (List.replicate 512 (0 : Int)).length = 512 := List.length_replicate
  have g1 := put512 g0 (a := 0) (s := nam) (by omega)
  have g2 := put512 g1 (a := 100) (s := octS m 7) (by omega)
  have g3 := put512 g2 (a := 108) (s := octS 0 7) (by omega)
  have g4 := put512 g3 (a := 116) (s := octS 0 7) (by omega)
  have g5 := put512 g4 (a := 124) (s := octS s 11) (by omega)
  have g6 := put512 g5 (a := 136) (s := octS 0 11) (by omega)
  have g7 := put512 g6 (a := 156) (s := ⟨#[k]⟩) (by omega)
  have g8 := put512 g7 (a := 157) (s := link) (by omega)
  have g9 := put512 g8 (a := 257) (s := ustar) (by omega)
  have a0 : fldAt 0 = 0 ∧ fldSz 0 = 100 := ⟨rfl, rfl⟩
  have a1 : fldAt 1 = 100 ∧ fldSz 1 = 8 := ⟨rfl, rfl⟩
  have a4 : fldAt 4 = 124 ∧ fldSz 4 = 12 := ⟨rfl, rfl⟩
  have a6 : fldAt 6 = 148 ∧ fldSz 6 = 8 := ⟨rfl, rfl⟩
  have a7 : fldAt 7 = 156 ∧ fldSz 7 = 1 := ⟨rfl, rfl⟩
  have a8 : fldAt 8 = 157 ∧ fldSz 8 = 100 := ⟨rfl, rfl⟩
  have a9 : fldAt 9 = 257 ∧ fldSz 9 = 8 := ⟨rfl, rfl⟩
  have a10 : fldAt 10 = 345 ∧ fldSz 10 = 155 := ⟨rfl, rfl⟩
  refine ⟨?_, ?_, ?_, ?_, ?_, ?_, ?_, ?_⟩
  · rw [fo hXl 148 _ (by omega) 0 (by omega), fo g9 345 _ (by omega) 0 (by omega), fo g8 257 _ (by omega) 0 (by omega), fo g7 157 _ (by omega) 0 (by omega), fo g6 156 _ (by omega) 0 (by omega), fo g5 136 _ (by omega) 0 (by omega), fo g4 124 _ (by omega) 0 (by omega), fo g3 116 _ (by omega) 0 (by omega), fo g2 108 _ (by omega) 0 (by omega), fo g1 100 _ (by omega) 0 (by omega)]
    exact fh g0 0 nam 0 _ (fld_zero 0 (by omega)) rfl (by omega) (by omega)
  · rw [fo hXl 148 _ (by omega) 1 (by omega), fo g9 345 _ (by omega) 1 (by omega), fo g8 257 _ (by omega) 1 (by omega), fo g7 157 _ (by omega) 1 (by omega), fo g6 156 _ (by omega) 1 (by omega), fo g5 136 _ (by omega) 1 (by omega), fo g4 124 _ (by omega) 1 (by omega), fo g3 116 _ (by omega) 1 (by omega), fo g2 108 _ (by omega) 1 (by omega)]
    rw [fh g1 100 (octS m 7) 1 8 (by rw [fo g0 0 _ (by omega) 1 (by omega)]; exact fld_zero 1 (by omega)) rfl (by omega) (by omega), o7]
    rfl
  · rw [fo hXl 148 _ (by omega) 4 (by omega), fo g9 345 _ (by omega) 4 (by omega), fo g8 257 _ (by omega) 4 (by omega), fo g7 157 _ (by omega) 4 (by omega), fo g6 156 _ (by omega) 4 (by omega), fo g5 136 _ (by omega) 4 (by omega)]
    rw [fh g4 124 (octS s 11) 4 12 (by rw [fo g3 116 _ (by omega) 4 (by omega), fo g2 108 _ (by omega) 4 (by omega), fo g1 100 _ (by omega) 4 (by omega), fo g0 0 _ (by omega) 4 (by omega)]; exact fld_zero 4 (by omega)) rfl (by omega) (by omega), o11]
    rfl
  · rw [fh hXl 148 (sumS sm) 6 8 (by rw [fo g9 345 _ (by omega) 6 (by omega), fo g8 257 _ (by omega) 6 (by omega), fo g7 157 _ (by omega) 6 (by omega), fo g6 156 _ (by omega) 6 (by omega), fo g5 136 _ (by omega) 6 (by omega), fo g4 124 _ (by omega) 6 (by omega), fo g3 116 _ (by omega) 6 (by omega), fo g2 108 _ (by omega) 6 (by omega), fo g1 100 _ (by omega) 6 (by omega), fo g0 0 _ (by omega) 6 (by omega)]; exact fld_zero 6 (by omega)) rfl (by omega) (by omega), oz]
    simp only [Nat.sub_self, List.replicate_zero, List.append_nil]
    unfold sumS bo YteblbggmchcijaaDoorW.PrintWords.bytesOf
    simp
  · rw [fo hXl 148 _ (by omega) 7 (by omega), fo g9 345 _ (by omega) 7 (by omega), fo g8 257 _ (by omega) 7 (by omega), fo g7 157 _ (by omega) 7 (by omega)]
    rw [fh g6 156 ⟨#[k]⟩ 7 1 (by rw [fo g5 136 _ (by omega) 7 (by omega), fo g4 124 _ (by omega) 7 (by omega), fo g3 116 _ (by omega) 7 (by omega), fo g2 108 _ (by omega) 7 (by omega), fo g1 100 _ (by omega) 7 (by omega), fo g0 0 _ (by omega) 7 (by omega)]; exact fld_zero 7 (by omega)) rfl (by omega) (by omega), k1]
    rfl
  · rw [fo hXl 148 _ (by omega) 8 (by omega), fo g9 345 _ (by omega) 8 (by omega), fo g8 257 _ (by omega) 8 (by omega)]
    exact fh g7 157 link 8 100 (by rw [fo g6 156 _ (by omega) 8 (by omega), fo g5 136 _ (by omega) 8 (by omega), fo g4 124 _ (by omega) 8 (by omega), fo g3 116 _ (by omega) 8 (by omega), fo g2 108 _ (by omega) 8 (by omega), fo g1 100 _ (by omega) 8 (by omega), fo g0 0 _ (by omega) 8 (by omega)]; exact fld_zero 8 (by omega)) rfl (by omega) (by omega)
  · rw [fo hXl 148 _ (by omega) 9 (by omega), fo g9 345 _ (by omega) 9 (by omega)]
    rw [fh g8 257 ustar 9 8 (by rw [fo g7 157 _ (by omega) 9 (by omega), fo g6 156 _ (by omega) 9 (by omega), fo g5 136 _ (by omega) 9 (by omega), fo g4 124 _ (by omega) 9 (by omega), fo g3 116 _ (by omega) 9 (by omega), fo g2 108 _ (by omega) 9 (by omega), fo g1 100 _ (by omega) 9 (by omega), fo g0 0 _ (by omega) 9 (by omega)]; exact fld_zero 9 (by omega)) rfl (by omega) (by omega), u]
    simp
  · rw [fo hXl 148 _ (by omega) 10 (by omega)]
    exact fh g9 345 pre 10 155 (by rw [fo g8 257 _ (by omega) 10 (by omega), fo g7 157 _ (by omega) 10 (by omega), fo g6 156 _ (by omega) 10 (by omega), fo g5 136 _ (by omega) 10 (by omega), fo g4 124 _ (by omega) 10 (by omega), fo g3 116 _ (by omega) 10 (by omega), fo g2 108 _ (by omega) 10 (by omega), fo g1 100 _ (by omega) 10 (by omega), fo g0 0 _ (by omega) 10 (by omega)]; exact fld_zero 10 (by omega)) rfl (by omega) (by omega)
theorem fld7_rd {b : List Int} {k : Int} (h : fldL b 7 = [k]) : rd b 156 = k := by
  have : (fldL b 7)[0]? = some k := by rw [h]; rfl
  unfold fldL at this
  rw [List.getElem?_take, if_pos (by decide), List.getElem?_drop] at this
  unfold rd
  rw [List.getD_eq_getElem?_getD]
  have e : fldAt 7 + 0 = Int.toNat 156 := rfl
  rw [← e, this]; rfl
theorem partIdx_at {s : ByteArray} : ∀ {j i : Nat}, j + 2 ≤ s.size → partIdx s j = some i → 1 ≤ i ∧ i ≤ j ∧ bt s (i : Int) = 47
  | 0, i, _, h => by simp [partIdx] at h
  | j + 1, i, hj, h => by
    simp only [partIdx] at h
    split at h
    · split at h
      · rename_i h1 h2
        have := Option.some.inj h
        subst this
        exact ⟨by omega, by omega, h2.1⟩
      · have := partIdx_at (by omega) h
        exact ⟨this.1, by omega, this.2.2⟩
    · cases h
theorem not_nil {s : ByteArray} (h : 0 < s.size) : ¬ s.toList = [] := fun e => by
  have := toList_size s
  rw [e] at this
  simp at this
  omega
theorem parted_join (s : ByteArray) (h : (parted s).ok = true) : slash (parted s).pre (parted s).nam = s ∧ ¬ (parted s).nam.toList = [] := by
  unfold parted at h ⊢
  by_cases h1 : s.size ≤ 100
  · rw [if_pos h1] at h ⊢
    have e : (⟨#[]⟩ : ByteArray).toList = [] := by rw [ByteArray.toList_eq]
    refine ⟨by unfold slash; rw [if_pos e], ?_⟩
    intro e2
    simp only [e2] at h
    simp at h
  · rw [if_neg h1] at h ⊢
    cases hp : partIdx s (s.size - 2) with
    | none => rw [hp] at h; cases h
    | some i =>
      obtain ⟨a, b, c⟩ := partIdx_at (by omega) hp
      have hlt : i < s.size := by omega
      refine ⟨?_, not_nil (by show 0 < (s.extract (i + 1) s.size).size; rw [ByteArray.size_extract]; omega)⟩
      show slash (s.extract 0 i) (s.extract (i + 1) s.size) = s
      unfold slash
      rw [if_neg (not_nil (by rw [ByteArray.size_extract]; omega))]
      rw [bt_get' s i hlt] at c
      have c' : s[i]'hlt = 47 := UInt8.toNat_inj.1 (by simp; omega)
      apply ByteArray.ext
      apply Array.ext'
      have hL : i < s.data.toList.length := by simpa using hlt
      have e : s.data.toList = s.data.toList.take i ++ s.data.toList[i]'hL :: s.data.toList.drop (i + 1) := by
        rw [← List.drop_eq_getElem_cons hL, List.take_append_drop]
      have e47 : s.data.toList[i]'hL = 47 := by rw [← c']; simp; rfl
      rw [e47] at e
      conv => rhs; rw [e]
      rw [ByteArray.data_append, ByteArray.data_append, Array.toList_append, Array.toList_append, ByteArray.data_extract, ByteArray.data_extract, Array.toList_extract, Array.toList_extract]
      simp
      exact List.take_of_length_le (by rw [List.length_drop]; exact Nat.le_of_eq rfl)
theorem hz_of {s : ByteArray} {P : Parted} (hp : parted s = P) (h : P.ok = true) (hz : (0 : UInt8) ∉ s.data.toList) : (0 : UInt8) ∉ P.pre.data.toList ∧ (0 : UInt8) ∉ P.nam.data.toList := by
  subst hp
  unfold parted at h ⊢
  by_cases h1 : s.size ≤ 100
  · rw [if_pos h1]
    exact ⟨by simp, hz⟩
  · rw [if_neg h1] at h ⊢
    cases hp : partIdx s (s.size - 2) with
    | none => rw [hp] at h; cases h
    | some i =>
      refine ⟨fun hm => hz ?_, fun hm => hz ?_⟩
      · have e : (s.extract 0 i).data.toList = s.data.toList.extract 0 i := by rw [ByteArray.data_extract, Array.toList_extract]
        rw [show (partedAt s (some i)).pre = s.extract 0 i from rfl, e] at hm
        exact List.mem_of_mem_take (by simpa [List.extract] using hm)
      · have e : (s.extract (i + 1) s.size).data.toList = s.data.toList.extract (i + 1) s.size := by rw [ByteArray.data_extract, Array.toList_extract]
        rw [show (partedAt s (some i)).nam = s.extract (i + 1) s.size from rfl, e] at hm
        unfold List.extract at hm
        exact List.mem_of_mem_drop (List.mem_of_mem_take hm)
/-- What a header needs. -/
structure Good (a0 a1 : ByteArray) (m s k : Int) : Prop where
  ok : (parted a0).ok = true
  l1 : a1.size ≤ 100
  z0 : (0 : UInt8) ∉ a0.data.toList
  z1 : (0 : UInt8) ∉ a1.data.toList
  m0 : 0 ≤ m
  m1 : m ≤ 4095
  s0 : 0 ≤ s
  s1 : s ≤ 262144
  k0 : ¬ k = 0
theorem good_of {a0 a1 : ByteArray} {m s k : Int} (h : ¬ badHead a0 a1 m s k = true) : Good a0 a1 m s k := by
  unfold badHead at h
  rw [hasZero_append] at h
  simp only [Bool.or_eq_true, decide_eq_true_eq, Bool.not_eq_true', not_or] at h
  obtain ⟨⟨⟨⟨⟨⟨⟨g1, g2⟩, g3, g3'⟩, g4⟩, g5⟩, g6⟩, g7⟩, g8⟩ := h
  exact ⟨by simpa using g1, by omega, g3, g3', by omega, by omega, by omega, by omega, g8⟩
/-- The bytes that are printed. -/
def hb (a0 a1 : ByteArray) (m s k : Int) : List Int := headB (parted a0).pre (parted a0).nam a1 m.toNat s.toNat ⟨#[UInt8.ofNat k.toNat]⟩
theorem hb_len {a0 a1 : ByteArray} {m s k : Int} (g : Good a0 a1 m s k) : (hb a0 a1 m s k).length = 512 := by
  obtain ⟨z1, z2, z3⟩ := parted_sizes a0 g.ok
  exact headB_len _ _ _ _ _ _ z1 z2 g.l1
theorem hb_bytes (a0 a1 : ByteArray) (m s k : Int) : AreBytes (hb a0 a1 m s k) := putL_bytes (headX_bytes _ _ _ _ _ _) _ _
theorem hb_sum {a0 a1 : ByteArray} {m s k : Int} (g : Good a0 a1 m s k) : octP (fldL (hb a0 a1 m s k) 6) = (sumTo (hb a0 a1 m s k) 512, 0) := by
  obtain ⟨z1, z2, z3⟩ := parted_sizes a0 g.ok
  have F := headB_flds (parted a0).pre (parted a0).nam a1 m.toNat s.toNat (UInt8.ofNat k.toNat) z1 z2 g.l1
  have hX := headX_len (parted a0).pre (parted a0).nam a1 m.toNat s.toNat (UInt8.ofNat k.toNat) z1 z2 g.l1
  have hr := sumTo_range (headX_bytes (parted a0).pre (parted a0).nam a1 m.toNat s.toNat ⟨#[UInt8.ofNat k.toNat]⟩) 512
  have e : sumTo (hb a0 a1 m s k) 512 = sumTo (headX (parted a0).pre (parted a0).nam a1 m.toNat s.toNat ⟨#[UInt8.ofNat k.toNat]⟩) 512 := sumTo_putL _ _ (sumS_size _) (by omega) 512
  unfold hb at e ⊢
  rw [F.f6, octP_lows _ 6 [0, 32] (by omega) (by omega) (by omega) (by simp) (by decide), e, Int.toNat_of_nonneg hr.1]
theorem parse_print {a0 a1 : ByteArray} {m s k : Int} (g : Good a0 a1 m s k) (hk0 : 0 ≤ k) (hk : k ≤ 255) : parseP (hb a0 a1 m s k) = (a0, a1, m, s, k, 0) := by
  obtain ⟨z1, z2, z3⟩ := parted_sizes a0 g.ok
  have F := headB_flds (parted a0).pre (parted a0).nam a1 m.toNat s.toNat (UInt8.ofNat k.toNat) z1 z2 g.l1
  have hlen := hb_len g
  have hsum := hb_sum g
  obtain ⟨n0, n1⟩ := hz_of rfl g.ok g.z0
  obtain ⟨j0, j1⟩ := parted_join a0 g.ok
  have g1 := g.m0; have g2 := g.m1; have g3 := g.s0; have g4 := g.s1
  have e1 : octP (fldL (hb a0 a1 m s k) 1) = (m, 0) := by
    unfold hb; rw [F.f1, octP_lows _ 7 [0] (by omega) (by omega) (by omega) (by simp) (by decide), Int.toNat_of_nonneg g.m0]
  have e4 : octP (fldL (hb a0 a1 m s k) 4) = (s, 0) := by
    unfold hb; rw [F.f4, octP_lows _ 11 [0] (by omega) (by omega) (by omega) (by simp) (by decide), Int.toNat_of_nonneg g.s0]
  have e9 : (strOfNums (fldL (hb a0 a1 m s k) 9)).toList = ustar.toList := by
    unfold hb; rw [F.f9, str_bytes]
  have e0 : textL (fldL (hb a0 a1 m s k) 0) = (parted a0).nam := by unfold hb; rw [F.f0, textL_pad _ _ n1]
  have e8 : textL (fldL (hb a0 a1 m s k) 8) = a1 := by unfold hb; rw [F.f8, textL_pad _ _ g.z1]
  have e10 : textL (fldL (hb a0 a1 m s k) 10) = (parted a0).pre := by unfold hb; rw [F.f10, textL_pad _ _ n0]
  have hkd : (UInt8.ofNat k.toNat).toNat = k.toNat := by rw [UInt8.toNat_ofNat']; omega
  have e7 : rd (hb a0 a1 m s k) 156 = k := by
    have := fld7_rd (b := hb a0 a1 m s k) F.f7
    rw [this, hkd, Int.toNat_of_nonneg hk0]
  unfold parseP
  rw [if_neg (by rintro (h | h); · exact h hlen
                 · exact h e9), e1, e4, hsum, if_neg (by simp), if_neg (by
    rintro (h | h | h)
    · exact h rfl
    · have : s ≤ 262144 := g.s1
      simp only at h
      omega
    · rw [e0] at h; exact j1 h), e0, e8, e10, j0, e7]
  have hm : bits .and .i64 m 4095 = m := by rw [and4095 m g.m0 (by omega), Int.tmod_eq_emod_of_nonneg g.m0]; omega
  have hkk : kindOf k = k := by unfold kindOf; rw [if_neg g.k0]
  simp only [hm, hkk]
theorem hb_notEmpty {a0 a1 : ByteArray} {m s k : Int} (g : Good a0 a1 m s k) : emptyL (hb a0 a1 m s k) = false := by
  obtain ⟨z1, z2, z3⟩ := parted_sizes a0 g.ok
  have F := headB_flds (parted a0).pre (parted a0).nam a1 m.toNat s.toNat (UInt8.ofNat k.toNat) z1 z2 g.l1
  have hlen := hb_len g
  have h9 : fldL (hb a0 a1 m s k) 9 = bo ustar := F.f9
  have h257 : (hb a0 a1 m s k)[257]? = some 117 := by
    have : (fldL (hb a0 a1 m s k) 9)[0]? = some 117 := by rw [h9]; rfl
    unfold fldL at this
    rw [List.getElem?_take, if_pos (by decide), List.getElem?_drop] at this
    exact this
  have : ¬ idxNZ (hb a0 a1 m s k) < 0 := by
    unfold idxNZ
    cases hf : (hb a0 a1 m s k).findIdx? (· != 0) with
    | some i => simp only []; omega
    | none =>
      rw [List.findIdx?_eq_none_iff] at hf
      have := hf 117 (List.mem_of_getElem? h257)
      simp at this
  unfold emptyL
  rw [decide_eq_false this, Bool.and_false]
theorem rd_set {l : List Int} {k : Nat} (hk : k < l.length) (v : Int) (i : Nat) : rd (l.set k v) (i : Int) = if i = k then v else rd l (i : Int) := by
  unfold rd
  rw [List.getD_eq_getElem?_getD, List.getD_eq_getElem?_getD, Int.toNat_natCast, List.getElem?_set]
  by_cases e : k = i
  · subst e; rw [if_pos rfl, if_pos hk, if_pos rfl]; rfl
  · rw [if_neg e, if_neg (fun h => e h.symm)]
theorem sumTo_set {l : List Int} {k : Nat} (hk : k < l.length) (hk2 : ¬ (148 ≤ k ∧ k < 156)) (v : Int) : ∀ n, sumTo (l.set k v) n = sumTo l n + (if k < n then v - rd l (k : Int) else 0)
  | 0 => by simp [sumTo]
  | n + 1 => by
    unfold sumTo
    rw [sumTo_set hk hk2 v n, rd_set hk]
    by_cases e : n = k
    · subst e
      rw [if_neg hk2, if_neg hk2, if_pos rfl, if_neg (by omega), if_pos (by omega)]; omega
    · rw [if_neg e]
      generalize (if 148 ≤ n ∧ n < 156 then (32 : Int) else rd l (n : Int)) = q
      by_cases h : k < n
      · rw [if_pos h, if_pos (by omega)]; omega
      · rw [if_neg h, if_neg (by omega)]; omega
theorem xor_ne (b x : Int) (hb0 : 0 ≤ b) (hb : b ≤ 255) (hx0 : 0 ≤ x) (hx : x ≤ 255) (hne : ¬ x = 0) : 0 ≤ bits .xor .u8 b x ∧ bits .xor .u8 b x ≤ 255 ∧ bits .xor .u8 b x ≠ b := by
  obtain ⟨b, rfl⟩ := Int.eq_ofNat_of_zero_le hb0
  obtain ⟨x, rfl⟩ := Int.eq_ofNat_of_zero_le hx0
  have hb' : b < 256 := by omega
  have hx' : x < 256 := by omega
  have hx1 : x ≠ 0 := by omega
  have key : bits .xor .u8 (b : Int) (x : Int) = ((b ^^^ x : Nat) : Int) := by
    have hlt : b ^^^ x < 256 := Nat.xor_lt_two_pow (n := 8) hb' hx'
    simp only [bits, BitVec.ofInt_natCast, BitVec.toNat_xor, BitVec.toNat_ofNat]
    rw [show IntKind.u8.bits = 8 from rfl, Nat.mod_eq_of_lt hb', Nat.mod_eq_of_lt hx', IntKind.wrap_u8]
    omega
  have hlt : b ^^^ x < 256 := Nat.xor_lt_two_pow (n := 8) hb' hx'
  rw [key]
  refine ⟨by omega, by omega, ?_⟩
  intro h
  have h' : b ^^^ x = b := by omega
  have : b ^^^ (b ^^^ x) = b ^^^ b := by rw [h']
  rw [← Nat.xor_assoc, Nat.xor_self, Nat.zero_xor] at this
  exact hx1 this
theorem turned_bad {a0 a1 : ByteArray} {m s k : Int} (g : Good a0 a1 m s k) (i : Nat) (hi : i < 512) (hi2 : ¬ (148 ≤ i ∧ i < 156)) (v : Int) (hv : v ≠ rd (hb a0 a1 m s k) (i : Int)) : parseP ((hb a0 a1 m s k).set i v) = bad6 := by
  have hlen := hb_len g
  have hsum := hb_sum g
  have hS := sumTo_set (l := hb a0 a1 m s k) (k := i) (by omega) hi2 v 512
  rw [if_pos hi] at hS
  have h6 : fldL ((hb a0 a1 m s k).set i v) 6 = fldL (hb a0 a1 m s k) 6 := by
    unfold fldL
    have e : fldAt 6 = 148 ∧ fldSz 6 = 8 := ⟨rfl, rfl⟩
    rw [e.1, e.2]
    apply List.ext_getElem?
    intro j
    rw [List.getElem?_take, List.getElem?_take]
    by_cases hj : j < 8
    · rw [if_pos hj, if_pos hj, List.getElem?_drop, List.getElem?_drop, List.getElem?_set, if_neg (by omega)]
    · rw [if_neg hj, if_neg hj]
  unfold parseP
  split
  · rfl
  · split
    · rfl
    · rw [if_pos]
      left
      rw [h6, hsum, hS]
      simp only []
      omega
end Go.Proofs.YteblbggmchcijaaDoor.PAll
end
