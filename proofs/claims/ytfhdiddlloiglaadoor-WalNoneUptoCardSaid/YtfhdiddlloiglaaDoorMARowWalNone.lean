/- The law WalNone: for every input of bulk at most 1048576 the call returns true, and the input reads as it did; the package variables that the row lists are laid by the program's text. -/
import Derived.Test.YtfhdiddlloiglaaDoorRows
import Derived.Test.YtfhdiddlloiglaaDoorCards
import Derived.Test.YtfhdiddlloiglaaDoorTie
import Derived.Test.YtfhdiddlloiglaaDoorMA20
import Derived.Test.YtfhdiddlloiglaaDoorMAOpens
import Derived.WalkKit
import Derived.ProofKit
import Derived.OpenShut
import Derived.ShutString
import Derived.ChangeOld
import Derived.Below
import Derived.SizedLaws
import Derived.LaidMore
import Derived.Lay
import Derived.SevenTiedAt
import Derived.Stop.Joined
import Derived.Deep.CondSized
import Derived.Test.YtfhdiddlloiglaaDoorMAWraps
namespace Go.Proofs.YtfhdiddlloiglaaDoor.walNoneUpto
open Go.ChangeShapes Go.WideShapes Go.ChangeAt Go.RowKit
open Go.ChangeMaps (open_string shut_string)
open Go.Proofs.YtfhdiddlloiglaaDoor
set_option linter.unusedVariables false
set_option linter.unusedSimpArgs false
theorem own : ownKnob Tryd.prog.godebug = none := by kernel_rfl
abbrev laidL : List (String × DataW Unit) := [("sutler/crc.half", Rows.laid_sutler_crc_half)]
theorem laidOut : laidOutB Tryd.prog = true := by kernel_rfl
set_option maxRecDepth 100000 in
theorem lifted (os : Os) (started : os.Started) (H : Type) (enc : TypeId × Value → H) (F : Stop.Interp) :
    ReturnsInHanded {} Tryd.checked os 3 .any (fun w args => ((Rows.OpenSpec.upto Rows.walNoneSpec).pre enc Tryd.prog Tryd.f3 Rows.walNoneUptoRow.domain false w args ∧ laidMetH Tryd.prog laidL w) ∧ sizedMet enc Tryd.prog Tryd.f3 (Rows.OpenSpec.upto Rows.walNoneSpec) false w args)
      (((Rows.OpenSpec.upto Rows.walNoneSpec).at F).post enc Tryd.prog Tryd.f3 false true false false) := by
  refine returns_laid_upto (C := Tryd.checked) (s := Rows.OpenSpec.upto Rows.walNoneSpec) (k := Rows.uptoSmall) rfl (X := fun w => laidMetH Tryd.prog laidL w) (fun _ _ hh h => h.of_heap hh) own started (by kernel_rfl) Tryd.func3
    (witness_upto (enc := enc) (C := Tryd.checked) (os := os) (s := Rows.OpenSpec.upto Rows.walNoneSpec) (k := Rows.uptoSmall) rfl (X := fun w => laidMetH Tryd.prog laidL w) false (World.laidAll Tryd.prog os laidL) #[.slice none 0 0] 8 (World.laidAll_os _ _ _)
      (World.shaped_of_ZipB (by kernel_rfl) (by kernel_rfl)) (by kernel_rfl) (x := ([.nil], [], [])) (by kernel_rfl) rfl (by kernel_rfl) (by kernel_rfl)
      (by rw [MakeChecks.laidMetH_plain _ _ _ (by kernel_rfl)]; exact laidMet_laidAll _ (by kernel_rfl) (by kernel_rfl))) ?_
  intro W base args ds gs before hval0 hW hk hsz0 hLaid hSh
  have hsz : (DataW.weightsEach Tryd.prog (Tryd.f3.params.toList ++ Rows.walNoneSpec.plain.varTypes Tryd.prog) (ds ++ gs)).all (· ≤ reachBytes) = true := hsz0
  have hval : ∀ (j : Nat) t v, Tryd.f3.params[j]? = some t → args[j]? = some v → Value.okWide Tryd.prog W .any base t v := hval0
  have L0 := half_of_laid2 hLaid hSh
  have hW' := hW
  obtain ⟨p, q, hA0, hV, rfl, hfz, hnd⟩ := hW
  have hA : DataW.TrodAll enc Tryd.prog W 0 (fun _ => true) true Tryd.f3.params.toList args.toList ds p := hA0
  rw [Tryd.params3] at hA hval hsz
  obtain ⟨v0, vs0, d0, ds0, p0, q0, hargs, rfl, rfl, h0, r0⟩ := trodAll_cons hA
  obtain ⟨rfl, rfl, rfl⟩ := trodAll_nil r0
  obtain rfl : args = #[v0] := by cases args; simp_all
  obtain ⟨rfl, rfl⟩ := trodVars_none hV
  obtain ⟨A0, len0, cap0, rfl⟩ := okWide_slice Tryd.underlying22 (hval 0 22 v0 rfl rfl)
  have k0 := h0
  have lt0 : ∀ x ∈ p0, x.block < W.heap.size := by obtain ⟨m, hm⟩ := k0; exact DataW.trod_lt m _ _ _ hm
  obtain ⟨l0, ⟨Ax0, cx0, hcs0, hle0, hC0⟩, hG0⟩ := Op.opens_arg enc Tryd.prog W _ _ (opens_ints enc W) hsz (j := 0) (t := 22) rfl rfl h0
  have ee0 : A0 = Ax0 ∧ len0 = l0.length ∧ cap0 = cx0 := by simpa [Value.cells] using hcs0
  obtain ⟨rfl, rfl, rfl⟩ := ee0
  simp only [List.append_nil] at hk
  have B0 := of_decide_eq_true hk
  simp only [Rows.uptoBulkAll, Rows.uptoBulk, Array.length_toList] at B0
  have B1 : l0.length ≤ 1048576 := by have z := slice_bulk Tryd.underlying22 k0; omega
  clear B0 hk
  clear hA0 hval0 hsz0 hsz
  refine (none_calls L0 hC0 rfl B1).mono fun e W' ⟨he, bel⟩ => ?_
  subst he
  exact ⟨_, rfl, _, _, _, [], _, [], hW', trodAll_mk1 (shut_bool Tryd.underlying4 _), (trodAll_cons_mk (Below.trod laidOut (by kernel_rfl) (of_decide_eq_true (by kernel_rfl)) k0 bel lt0) trodAll_mk0), rfl, bel.frame _, fun h => by cases h⟩
theorem over : Rows.walNoneUptoRow.holds Tryd.pinned (Rows.OpenSpec.upto Rows.walNoneSpec) :=
  OpenClaim.holds_of_cond 3 Tryd.f3 rfl rfl rfl rfl rfl rfl rfl ⟨rfl, rfl, rfl, rfl, rfl⟩ rfl rfl rfl rfl rfl (by kernel_rfl) Tryd.func3 (by kernel_rfl)
    (of_decide_eq_true (by kernel_rfl)) (by unfold Func.isWrapper; first | (rw [if_pos (by decide +kernel)]; kernel_rfl) | (rw [if_neg (by decide +kernel)]; exact ⟨rfl, rfl⟩))
    (fun os started H enc _ F => lifted os started H enc F)
theorem card : Rows.WalNoneUptoCardSaid :=
  Claim7.holds_tied_plain_at .later [] [.data] true (true, "b0e6b5722d76bcaa83713012c86ccf3be56515e47db705c0d65435f8af9c92bf") false over (fun _ h => by cases h) (by kernel_rfl) (fun _ h => by cases h) walNoneUpto_row_tie rfl ⟨rfl, rfl⟩ (by kernel_rfl) rfl
    (fun f fn hf hfn => by
      obtain rfl : f = 3 := Option.some.inj ((show Tryd.prog.funcNamed "sutler/sutlerlaw04.WalNone" = some 3 by kernel_rfl).symm.trans hf) |>.symm
      obtain rfl : fn = Tryd.f3 := (Option.some.inj (Tryd.func3.symm.trans hfn)).symm
      exact ⟨by kernel_rfl, fun j t ht => by
        rw [Tryd.params3] at ht
        have hm : t ∈ [22] := by simpa using Array.mem_of_getElem? ht
        have hall : ([22].all fun u => !Tryd.prog.wantsStandIn u) = true := by kernel_rfl
        exact (show Tryd.prog.wantsStandIn t = false by simpa using List.all_eq_true.1 hall t hm)⟩)
    (by kernel_rfl)
end Go.Proofs.YtfhdiddlloiglaaDoor.walNoneUpto
namespace Go.Proofs.YtfhdiddlloiglaaDoor
theorem walNoneUptoCard_holds : Rows.WalNoneUptoCardSaid := walNoneUpto.card
#print axioms walNoneUptoCard_holds
end Go.Proofs.YtfhdiddlloiglaaDoor

