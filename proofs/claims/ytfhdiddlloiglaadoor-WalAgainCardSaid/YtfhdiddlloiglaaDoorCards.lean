/-
  DERIVED. GIVEN WITH THE SEED: THE CARDS: each row of YtfhdiddlloiglaaDoorRows.lean that lists a variable, with what it lists TIED to the program's text (the seventh form; the later family's looks); each row that meets fmt, with fmt's text TOLD by the authors' own Lean function (tested against real Go, not proved from fmt's source: count such statements apart). THE CARD IS WHAT COUNTS. Prove the row's statement (the work); the ties are given (YtfhdiddlloiglaaDoorTie.lean); close each card by the builder's one call (the guide's Derived/Test/ToyasCard.lean, 'card_holds'). Laid BY PROGRAM, IN A SANDBOX (cutbox-door.mjs). By AI agents, Wed Nov 11 2026. No macro, syntax, notation, axiom, sorry.
-/
import Derived.Test.YtfhdiddlloiglaaDoorRows
import GoSem.ClaimSeven
namespace Go.Proofs.YtfhdiddlloiglaaDoor
namespace Rows

/-- THE TIED CARD OF 'sutlerlaw04.WalNone'. -/
def walNoneCard : Claim7 := { stood := { row := walNoneRow, standIns := [], harness := (true, "b0e6b5722d76bcaa83713012c86ccf3be56515e47db705c0d65435f8af9c92bf"), looks := false }, kinds := [], alts := [], laidByText := true, laidKinds := [.data], laidTests := true, laidLooks := .later }
def WalNoneCardSaid : Prop := Claim7.holds Tryd.pinned (.plain (OpenSpec.ofChange walNoneSpec)) walNoneCard

/-- THE TIED CARD OF 'sutlerlaw04.WalWhole'. -/
def walWholeCard : Claim7 := { stood := { row := walWholeRow, standIns := [], harness := (true, "b0e6b5722d76bcaa83713012c86ccf3be56515e47db705c0d65435f8af9c92bf"), looks := false }, kinds := [], alts := [], laidByText := true, laidKinds := [.data], laidTests := true, laidLooks := .later }
def WalWholeCardSaid : Prop := Claim7.holds Tryd.pinned (.plain (OpenSpec.ofChange walWholeSpec)) walWholeCard

/-- THE TIED CARD OF 'sutlerlaw04.WalCosts'. -/
def walCostsCard : Claim7 := { stood := { row := walCostsRow, standIns := [], harness := (true, "b0e6b5722d76bcaa83713012c86ccf3be56515e47db705c0d65435f8af9c92bf"), looks := false }, kinds := [], alts := [], laidByText := true, laidKinds := [.data], laidTests := true, laidLooks := .later }
def WalCostsCardSaid : Prop := Claim7.holds Tryd.pinned (.plain (OpenSpec.ofChange walCostsSpec)) walCostsCard

/-- THE TIED CARD OF 'sutlerlaw04.WalAgain'. -/
def walAgainCard : Claim7 := { stood := { row := walAgainRow, standIns := [], harness := (true, "b0e6b5722d76bcaa83713012c86ccf3be56515e47db705c0d65435f8af9c92bf"), looks := false }, kinds := [], alts := [], laidByText := true, laidKinds := [.data], laidTests := true, laidLooks := .later }
def WalAgainCardSaid : Prop := Claim7.holds Tryd.pinned (.plain (OpenSpec.ofChange walAgainSpec)) walAgainCard

/-- THE SECOND FORM's CARD OF 'sutlerlaw04.WalNone'. -/
def walNoneUptoCard : Claim7 := { stood := { row := walNoneUptoRow, standIns := [], harness := (true, "b0e6b5722d76bcaa83713012c86ccf3be56515e47db705c0d65435f8af9c92bf"), looks := false }, kinds := [], alts := [], laidByText := true, laidKinds := [.data], laidTests := true, laidLooks := .later }
def WalNoneUptoCardSaid : Prop := Claim7.holds Tryd.pinned (.plain (OpenSpec.upto walNoneSpec)) walNoneUptoCard

/-- THE SECOND FORM's CARD OF 'sutlerlaw04.WalWhole'. -/
def walWholeUptoCard : Claim7 := { stood := { row := walWholeUptoRow, standIns := [], harness := (true, "b0e6b5722d76bcaa83713012c86ccf3be56515e47db705c0d65435f8af9c92bf"), looks := false }, kinds := [], alts := [], laidByText := true, laidKinds := [.data], laidTests := true, laidLooks := .later }
def WalWholeUptoCardSaid : Prop := Claim7.holds Tryd.pinned (.plain (OpenSpec.upto walWholeSpec)) walWholeUptoCard

/-- THE SECOND FORM's CARD OF 'sutlerlaw04.WalCosts'. -/
def walCostsUptoCard : Claim7 := { stood := { row := walCostsUptoRow, standIns := [], harness := (true, "b0e6b5722d76bcaa83713012c86ccf3be56515e47db705c0d65435f8af9c92bf"), looks := false }, kinds := [], alts := [], laidByText := true, laidKinds := [.data], laidTests := true, laidLooks := .later }
def WalCostsUptoCardSaid : Prop := Claim7.holds Tryd.pinned (.plain (OpenSpec.upto walCostsSpec)) walCostsUptoCard

/-- THE SECOND FORM's CARD OF 'sutlerlaw04.WalAgain'. -/
def walAgainUptoCard : Claim7 := { stood := { row := walAgainUptoRow, standIns := [], harness := (true, "b0e6b5722d76bcaa83713012c86ccf3be56515e47db705c0d65435f8af9c92bf"), looks := false }, kinds := [], alts := [], laidByText := true, laidKinds := [.data], laidTests := true, laidLooks := .later }
def WalAgainUptoCardSaid : Prop := Claim7.holds Tryd.pinned (.plain (OpenSpec.upto walAgainSpec)) walAgainUptoCard
end Rows
end Go.Proofs.YtfhdiddlloiglaaDoor
