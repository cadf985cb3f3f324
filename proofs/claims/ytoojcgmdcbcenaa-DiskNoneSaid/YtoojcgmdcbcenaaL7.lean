/- DiskNone: a disk that no call made reads and takes nothing. -/
import Derived.Test.YtoojcgmdcbcenaaLw
import Derived.Test.YtoojcgmdcbcenaaD
namespace Go.Proofs.Ytoojcgmdcbcenaa
open Go.RowKit Go.Maps Go.Proofs.YtoojcgmdcbcenaaW.PrintWords
set_option linter.unusedVariables false
set_option linter.unusedSimpArgs false
set_option maxRecDepth 100000

def zObj : Obj := .cells #[.slice none 0 0, .map none, .map none, .int .i64 0, .bool false, .int .i64 0] 53
theorem no_nil (w : World) : IsNo none w := is_nil w
theorem no_zero {w : World} {q : Nat} (h : w.heap[q]? = some zObj) : IsNo (some ⟨q, 0, none⟩) w :=
  is_calls (a := none) (n := 0) (c := 0) (mf := none) (mm := none) (left := 0) (off := false) (taken := 0)
    ⟨(cell_of_blk h 0).trans rfl, (cell_of_blk h 1).trans rfl, (cell_of_blk h 2).trans rfl, (cell_of_blk h 3).trans rfl, (cell_of_blk h 4).trans rfl, (cell_of_blk h 5).trans rfl⟩
theorem no_zero_alloc {w : World} {q : Nat} (h : w.heap[q]? = some zObj) (o : Obj) : IsNo (some ⟨q, 0, none⟩) (w.alloc o) :=
  no_zero ((Below.heap_alloc w o q (Array.getElem?_eq_some_iff.1 h).1).trans h)
set_option maxHeartbeats 600000 in
theorem none_calls (w : World) (at_ : Int) : Calls Try.prog 7 #[.int .i64 at_] w fun e w' => e = .returned (.bool true) ∧ Below w.heap.size w w' := by
  have hwk := works_calls w
  have HW := Aside0.mk hwk
  have H0 := Aside0.mk (St.start w)
  clear hwk
  go_enter Try.func7, Try.ntmps7
  go_wp2_with fail
  refine HW.out.mono ?_
  rintro e W1 ⟨rfl, hb1⟩
  have H := (H0.out.go hb1).alloc zObj
  clear hb1 HW H0
  have hq := H.blk
  replace H := Aside0.mk H
  replace hq := Aside0.mk hq
  go_wp2_with fail
  rw [show W1.alloc (.cells #[.slice none 0 0, .map none, .map none, .int .i64 0, .bool false, .int .i64 0] 53) = W1.alloc zObj from rfl]
  generalize W1.alloc zObj = V0 at *
  refine (read_none (no_nil _) at_).mono ?_
  rintro e V1 ⟨rfl, rfl⟩
  go_wp2_with fail
  refine (read_none (no_zero hq.out) at_).mono ?_
  rintro e V2 ⟨rfl, rfl⟩
  go_wp2_with fail
  refine (limit_none (no_nil _) at_).mono ?_
  rintro e V3 ⟨rfl, rfl⟩
  go_wp2_with fail
  refine (limit_none (no_zero hq.out) at_).mono ?_
  rintro e V4 ⟨rfl, rfl⟩
  go_wp2_with fail
  refine (full_calls _ 1).mono ?_
  rintro e V5 ⟨v1, rfl, hv1, hb⟩
  replace H := Aside0.mk (H.out.go hb)
  replace hq := Aside0.mk H.out.blk
  clear hb
  obtain ⟨A1, c1, rfl⟩ := own_slice hv1
  clear hv1
  go_wp2_with fail
  refine (write_none (no_nil _) at_ _ _ _).mono ?_
  rintro e V6 ⟨rfl, rfl⟩
  go_wp2_with fail
  refine (full_calls _ 1).mono ?_
  rintro e V7 ⟨v2, rfl, hv2, hb⟩
  replace H := Aside0.mk (H.out.go hb)
  replace hq := Aside0.mk H.out.blk
  clear hb
  obtain ⟨A2, c2, rfl⟩ := own_slice hv2
  clear hv2
  go_wp2_with fail
  refine (write_none (no_zero hq.out) at_ _ _ _).mono ?_
  rintro e V8 ⟨rfl, rfl⟩
  go_wp2_with fail
  refine (sync_none (no_nil _)).mono ?_
  rintro e V9 ⟨rfl, rfl⟩
  go_wp2_with fail
  refine (sync_none (no_zero hq.out)).mono ?_
  rintro e V10 ⟨rfl, rfl⟩
  go_wp2_with fail
  refine (crash_none (fun o => no_nil _) none 0 0).mono ?_
  rintro e V11 ⟨rfl, hb⟩
  replace H := Aside0.mk (H.out.go hb)
  replace hq := Aside0.mk H.out.blk
  clear hb
  go_wp2_with fail
  refine (crash_none (fun o => no_zero_alloc hq.out o) none 0 0).mono ?_
  rintro e V12 ⟨rfl, hb⟩
  replace H := Aside0.mk (H.out.go hb)
  replace hq := Aside0.mk H.out.blk
  clear hb
  go_wp2_with fail
  refine (sectors_none (no_nil _)).mono ?_
  rintro e V13 ⟨rfl, rfl⟩
  go_wp2_with fail
  refine (sectors_none (no_zero hq.out)).mono ?_
  rintro e V14 ⟨rfl, rfl⟩
  go_wp2_with fail
  refine (ops_none (no_nil _)).mono ?_
  rintro e V15 ⟨rfl, rfl⟩
  go_wp2_with fail
  refine (ops_none (no_zero hq.out)).mono ?_
  rintro e V16 ⟨rfl, rfl⟩
  go_wp2_with fail
  refine (pending_none (no_nil _)).mono ?_
  rintro e V17 ⟨rfl, rfl⟩
  go_wp2_with fail
  refine (pending_none (no_zero hq.out)).mono ?_
  rintro e V18 ⟨rfl, rfl⟩
  go_wp2_with fail
  refine (image_none (no_nil _)).mono ?_
  rintro e V19 ⟨rfl, hb⟩
  replace H := Aside0.mk (H.out.go hb)
  replace hq := Aside0.mk H.out.blk
  clear hb
  go_wp2_with fail
  refine (image_none (no_zero hq.out)).mono ?_
  rintro e V20 ⟨rfl, hb⟩
  replace H := Aside0.mk (H.out.go hb)
  replace hq := Aside0.mk H.out.blk
  clear hb
  go_wp2_with fail
  refine (sure_none (no_nil _)).mono ?_
  rintro e V21 ⟨rfl, rfl⟩
  go_wp2_with fail
  refine (sure_none (no_zero hq.out)).mono ?_
  rintro e V22 ⟨rfl, rfl⟩
  go_wp2_with fail
  refine (clone_none (no_nil _)).mono ?_
  rintro e V23 ⟨rfl, rfl⟩
  go_wp2_with fail
  refine (clone_none (no_zero hq.out)).mono ?_
  rintro e V24 ⟨rfl, rfl⟩
  have HB := Aside0.mk H.out.below
  clear H hq
  go_wp2
  go_ret
  exact ⟨rfl, HB.out⟩
end Go.Proofs.Ytoojcgmdcbcenaa
