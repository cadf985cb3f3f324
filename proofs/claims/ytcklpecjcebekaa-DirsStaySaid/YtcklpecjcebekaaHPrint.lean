/- dirs.Print: a directory told as bytes. -/
import Derived.Test.YtcklpecjcebekaaHIdx
import Derived.Test.YtcklpecjcebekaaHCheck
import Derived.Test.YtcklpecjcebekaaStrOrd
import Derived.Test.YtcklpecjcebekaaHRight
import Derived.Test.YtcklpecjcebekaaHBytes
namespace Go.Proofs.Ytcklpecjcebekaa.PAll
open Go.RowKit Go.Shelf Go.Lib Go.Proofs.YtcklpecjcebekaaW.PrintWords Go.Proofs.YtcklpecjcebekaaW.PrintLast Go.Proofs.YtcklpecjcebekaaW.PrintMore Go.Proofs.Ytcklpecjcebekaa.Sp
attribute [local go_sem] Oper.semAt_some
set_option linter.unusedVariables false
set_option linter.unusedSimpArgs false

def nameBytes (x : S37) : List Int := [IntKind.u8.wrap (x.f0.size : Int)] ++ YtcklpecjcebekaaW.PrintWords.bytesOf x.f0 ++ [x.f1 % 256, x.f1 / 256 % 256]
def dirBytes (l : List S37) : List Int := l.flatMap nameBytes
def dirs_Print.f (l0 : List S37) : Option (List Int × Int) := if rightL l0 then some (dirBytes l0, 0) else some ([], 70)

theorem dirBytes_succ (l : List S37) (k : Nat) (h : k < l.length) : dirBytes (l.take (k + 1)) = dirBytes (l.take k) ++ nameBytes (rd_T37 l (k : Int)) := by
  rw [rd_get l k h, List.take_succ_eq_append_getElem h]
  simp only [dirBytes, List.flatMap_append, List.flatMap_cons, List.flatMap_nil, List.append_nil]
theorem right_names : ∀ {l : List S37} {last : List UInt8}, rightFrom last l = true → ∀ x ∈ l, x.f0.size ≤ 32
  | [], _, _, x, hx => by cases hx
  | y :: r, last, h, x, hx => by
    simp only [rightFrom, Bool.and_eq_true] at h
    rcases List.mem_cons.1 hx with rfl | hx
    · have := h.1.1.1
      simp only [isName, Bool.and_eq_true, decide_eq_true_eq] at this
      rw [Lib.size_eq]; exact this.1.1.1.2
    · exact right_names h.2 x hx
theorem dirBytes_le : ∀ {l : List S37}, (∀ x ∈ l, x.f0.size ≤ 32) → (dirBytes l).length ≤ l.length * 35
  | [], _ => by simp [dirBytes]
  | y :: r, h => by
    have ih := dirBytes_le (l := r) fun x hx => h x (by simp [hx])
    have hy := h y (by simp)
    have e : dirBytes (y :: r) = nameBytes y ++ dirBytes r := by simp [dirBytes]
    have e2 : (nameBytes y).length = y.f0.size + 3 := by
      unfold nameBytes
      rw [List.length_append, List.length_append, YtcklpecjcebekaaW.PrintWords.bytesOf_length]; simp; omega
    rw [e, List.length_append, e2, List.length_cons]
    omega
theorem own_below {w0 W w1 : World} {v : Value} {acc : List Int} (h : Below w0.heap.size w0 W) (hO : BRow W w0.heap.size v acc) (hg : W.grownBy w1 v.ownBlock) : Below w0.heap.size w0 w1 :=
  h.grown hg h.size (own_base hO)

set_option maxHeartbeats 4000000 in
set_option maxRecDepth 100000 in
theorem dirs_Print.calls (A0 : Option Addr) (c0 : Nat) (l0 : List (S37)) (r1 : List Int) (r2 : Int) (w : World) (hr0 : Kd.C k37 w A0 l0.length l0) (hc0 : l0.length ≤ c0) (h : dirs_Print.f l0 = some (r1, r2)) :
    Calls Try.prog 9 #[.slice A0 l0.length c0] w fun e w' => ∃ v0_ : Value, e = .returned (.tuple #[v0_, .int .i64 r2]) ∧ Kd.R (Kd.int .u8) 5 w' w.heap.size (fun _ => True) v0_ r1 ∧ Below w.heap.size w w' := by
  have hl63 : l0.length ≤ 9223372036854775807 := hr0.2.1
  have cR : ∀ W, Below w.heap.size w W → Calls Try.prog 25 #[.slice A0 l0.length c0] W fun e w' => e = .returned (.bool (rightL l0)) ∧ Below W.heap.size W w' := fun W hW => by
    obtain ⟨k, hk⟩ := Ev.rounds (right_f l0 hl63)
    exact dirs_right.calls k A0 c0 l0 _ W (Kd.C_below hr0 hW) hc0 hk
  have HC := Aside0.mk hr0
  unfold dirs_Print.f at h
  cases hR : rightL l0 with
  | false =>
    rw [hR] at h cR
    simp at h
    obtain ⟨rfl, rfl⟩ := h
    clear hr0 hR
    go_enter Try.func9, Try.ntmps9
    go_wp2_with fail
    refine (cR _ (Below.refl _ _)).mono ?_
    rintro e w2 ⟨rfl, hb⟩
    go_wp2
    go_ret2
    exact ⟨_, rfl, Kd.R_nil _ _ _ _ _, hb⟩
  | true =>
    rw [hR] at h cR
    simp at h
    obtain ⟨rfl, rfl⟩ := h
    have HR := Aside0.mk hR
    clear hr0 hR
    have hu37 := Try.underlying37
    go_enter Try.func9, Try.ntmps9
    go_wp2_with fail
    refine (cR _ (Below.refl _ _)).mono ?_
    rintro e w2 ⟨rfl, hb⟩
    have HB2 := Aside0.mk hb
    clear hb
    go_wp2_with fail
    go_loopw [4, 12] (fun v i W => ∃ k : Nat, i = .int .i64 (k : Int) ∧ k ≤ l0.length ∧ Aside0 (W.ownsRow w.heap.size 5 1 v (dirBytes (l0.take k)).length (nums .u8 (dirBytes (l0.take k)))) ∧ Aside0 (Below w.heap.size w W)) (fun _ i _ => l0.length - (intOf i).toNat)
    case atStart => exact ⟨0, rfl, by omega, Aside0.mk (own_nil _ _ _ _), HB2⟩
    case round =>
      obtain ⟨k, rfl, hk, HO, HB⟩ := hrel
      by_cases hlt : k < l0.length
      · have t1 : decide ((k : Int) < (l0.length : Int)) = true := decide_eq_true (by omega)
        have t3 : (k : Int) < (l0.length : Int) := by omega
        obtain ⟨ad, rfl, h0, h1⟩ := at_T37 HC.out (k : Int) (by omega) (by omega)
        have g0 := (HB.out.cell (World.block_lt_of_cell? w _ h0)).trans h0
        have g1 := (HB.out.cell (World.block_lt_of_cell? w _ h1)).trans h1
        clear h0 h1
        simp only [Int.toNat_natCast] at g0 g1
        obtain ⟨acc, hacc⟩ : ∃ acc, acc = dirBytes (l0.take k) := ⟨_, rfl⟩
        have HO' : Aside0 (BRow wr w.heap.size u4 acc) := Aside0.mk (by rw [hacc]; exact HO.out)
        have hrl := HR.out
        simp only [rightL, Bool.and_eq_true, decide_eq_true_eq] at hrl
        have hlen : acc.length ≤ 1073741824 := by
          have h1 := dirBytes_le (l := l0.take k) fun x hx => right_names hrl.1 x (List.mem_of_mem_take hx)
          have h2 : (l0.take k).length ≤ 256 := by rw [List.length_take]; omega
          rw [hacc]; omega
        have hss0 : (rd_T37 l0 (k : Int)).f0.size ≤ 32 := by rw [rd_get l0 k hlt]; exact right_names hrl.1 _ (List.getElem_mem hlt)
        clear hrl
        have hb0 : w.heap.size ≤ wr.heap.size := HB.out.size
        obtain ⟨s, hs⟩ : ∃ s, (rd_T37 l0 (k : Int)).f0 = s := ⟨_, rfl⟩
        obtain ⟨n, hn⟩ : ∃ n, (rd_T37 l0 (k : Int)).f1 = n := ⟨_, rfl⟩
        rw [hs] at g0
        rw [hn] at g1
        have hss : s.size ≤ 32 := by rw [← hs]; exact hss0
        have HN := Aside0.mk (And.intro hs hn)
        have HACC := Aside0.mk hacc
        clear HO hs hn hacc hss0
        have hbx0 : (wr.alloc (.cells #[.string s, .int .i64 n] 37)).cell? ⟨wr.heap.size, 0, none⟩ = some (.string s) := by simp
        have hbx1 : (wr.alloc (.cells #[.string s, .int .i64 n] 37)).cell? ⟨wr.heap.size, 1, none⟩ = some (.int .i64 n) := by simp
        go_wp2_with fail
        have mixed : Try.prog.follows .mixedOrders = true := by kernel_rfl
        have hsz1 : (wr.alloc (.cells #[.string s, .int .i64 n] 37)).heap.size = wr.heap.size + 1 := by simp
        have hone : ∀ W : World, W.heap[wr.heap.size + 1]? = some (.cells #[.int .u8 (IntKind.u8.wrap (s.size : Int))] 5 (0, 0)) → ∀ j u, (nums .u8 [IntKind.u8.wrap (s.size : Int)])[j]? = some u → W.cell? ((⟨wr.heap.size + 1, 0, none⟩ : Addr).add j) = some u := fun W hW j u hu => by
          rw [add_lit, cell_row hW, ← Array.getElem?_toList, Nat.zero_add]; exact hu
        have hnew : ((wr.alloc (.cells #[.string s, .int .i64 n] 37)).alloc (.cells #[.int .u8 (IntKind.u8.wrap (s.size : Int))] 5)).heap[wr.heap.size + 1]? = some (.cells #[.int .u8 (IntKind.u8.wrap (s.size : Int))] 5 (0, 0)) := by
          have := heap_alloc_new (wr.alloc (.cells #[.string s, .int .i64 n] 37)) (.cells #[.int .u8 (IntKind.u8.wrap (s.size : Int))] 5)
          rwa [hsz1] at this
        have hbxh : ((wr.alloc (.cells #[.string s, .int .i64 n] 37)).alloc (.cells #[.int .u8 (IntKind.u8.wrap (s.size : Int))] 5)).heap[wr.heap.size]? = some (.cells #[.string s, .int .i64 n] 37 (0, 0)) := (heap_alloc_old _ _ (by simp)).trans (heap_alloc_new wr _)
        have HBXH := Aside0.mk hbxh
        have hne0 := not_box (World.ownsRow.alloc (World.ownsRow.alloc HO'.out (.cells #[.string s, .int .i64 n] 37)) (.cells #[.int .u8 (IntKind.u8.wrap (s.size : Int))] 5)) hbxh (by decide)
        have HNE0 := Aside0.mk hne0
        clear hbxh hne0
        have HNEW := Aside0.mk hnew
        have HONE := Aside0.mk hone
        have HS1 := Aside0.mk hsz1
        clear hnew hone hsz1
        go_region_law_o (first
          | (refine step_bytes w.heap.size rfl (.tmp 16) (.tmp 21) rfl u4 acc [IntKind.u8.wrap (s.size : Int)] ⟨wr.heap.size + 1, 0, none⟩ 1 1 (by simp [Act.eval, Act.put]) (by simp [Act.eval, Act.put]) rfl (World.ownsRow.alloc (World.ownsRow.alloc HO'.out (.cells #[.string s, .int .i64 n] 37)) (.cells #[.int .u8 (IntKind.u8.wrap (s.size : Int))] 5)) (HONE.out _ HNEW.out) (by simp; omega) (by simp; omega) (fun v1 w1 ho1 hg1 => ?_); have hq1 : w1.heap[wr.heap.size]? = some (.cells #[.string s, .int .i64 n] 37 (0, 0)) := (hg1.block _ (by simp; omega) HNE0.out).trans HBXH.out; have hc10 : w1.cell? ⟨wr.heap.size, 0, none⟩ = some (.string s) := by rw [cell_row hq1]; rfl)
          | (refine step_str w.heap.size rfl (.tmp 22) (.tmp 24) rfl v1 (acc ++ [IntKind.u8.wrap (s.size : Int)]) s (by simp [Act.eval, Act.put]) (by simp [Act.eval, Act.put]) ho1 (Nat.le_trans hb0 (Nat.le_trans (by simp; omega) hg1.size)) (by simp; omega) (fun v2 w2' ho2 hg2 => ?_)))
        all_goals
          have hq2 : w2'.heap[wr.heap.size]? = some (.cells #[.string s, .int .i64 n] 37 (0, 0)) := (hg2.block _ (Array.getElem?_eq_some_iff.1 hq1).1 (not_box ho1 hq1 (by decide))).trans hq1
          have hc21 : w2'.cell? ⟨wr.heap.size, 1, none⟩ = some (.int .i64 n) := by rw [cell_row hq2]; rfl
          clear HNEW HONE
          have hb2 : w.heap.size ≤ w2'.heap.size := Nat.le_trans hb0 (Nat.le_trans (by simp; omega) (Nat.le_trans hg1.size hg2.size))
          have hl2 : (acc ++ [IntKind.u8.wrap (s.size : Int)] ++ YtcklpecjcebekaaW.PrintWords.bytesOf s).length + 2 ≤ 140737488355328 := by
            rw [List.length_append, List.length_append, YtcklpecjcebekaaW.PrintWords.bytesOf_length]; simp; omega
          go_wp2_with (at_builtin; refine wpl_bytes w.heap.size rfl (.tmp 26) (.tmp 34) rfl v2 _ [n % 256, n / 256 % 256] ⟨w2'.heap.size, 0, none⟩ 2 2 rfl rfl rfl (World.ownsRow.alloc ho2 _) (fun j u hu => by rw [add_lit, cell_row (heap_alloc_new w2' _), ← Array.getElem?_toList, Nat.zero_add]; exact hu) (by simp; omega) hl2 (fun v3 w3 ho3 hg3 => ?_))
          have hB0 : Below w.heap.size w ((wr.alloc (.cells #[.string s, .int .i64 n] 37)).alloc (.cells #[.int .u8 (IntKind.u8.wrap (s.size : Int))] 5)) := (HB.out.alloc hb0 _).alloc (by simp; omega) _
          have hB1 : Below w.heap.size w w1 := by
            have hO0 : BRow ((wr.alloc (.cells #[.string s, .int .i64 n] 37)).alloc (.cells #[.int .u8 (IntKind.u8.wrap (s.size : Int))] 5)) w.heap.size u4 acc := World.ownsRow.alloc (World.ownsRow.alloc HO'.out _) _
            first | exact own_below hB0 hO0 hg1 | exact own_below (below_drew1 hB0) (own_drew hO0) hg1
          have hB2 : Below w.heap.size w w2' := own_below hB1 ho1 hg2
          have hB3 : Below w.heap.size w w3 := own_below (hB2.alloc hb2 _) (World.ownsRow.alloc ho2 _) hg3
          refine ⟨⟨k + 1, rfl, by omega, Aside0.mk ?_, Aside0.mk hB3⟩, by simp [intOf]; omega⟩
          have e : dirBytes (l0.take (k + 1)) = acc ++ [IntKind.u8.wrap (s.size : Int)] ++ YtcklpecjcebekaaW.PrintWords.bytesOf s ++ [n % 256, n / 256 % 256] := by
            rw [dirBytes_succ l0 k hlt, ← HACC.out, nameBytes, HN.out.1, HN.out.2]; simp
          rw [e]; exact ho3
      · have hkl : k = l0.length := by omega
        have t1 : decide ((k : Int) < (l0.length : Int)) = false := decide_eq_false (by omega)
        have HO2 : BRow wr w.heap.size u4 (dirBytes l0) := by have := HO.out; rwa [hkl, List.take_length] at this
        have HOO := Aside0.mk HO2
        clear HO HO2
        go_wp2
        go_ret2
        exact ⟨_, rfl, Kd.R_of_own HOO.out (fun _ _ => trivial), HB.out⟩
end Go.Proofs.Ytcklpecjcebekaa.PAll
