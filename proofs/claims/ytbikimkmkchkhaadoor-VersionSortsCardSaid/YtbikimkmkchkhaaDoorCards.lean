/-
  DERIVED. GIVEN WITH THE SEED: THE CARDS: each row of YtbikimkmkchkhaaDoorRows.lean that lists a variable, with what it lists TIED to the program's text (the seventh form; the later family's looks); each row that meets fmt, with fmt's text TOLD by the authors' own Lean function (tested against real Go, not proved from fmt's source: count such statements apart). THE CARD IS WHAT COUNTS. Prove the row's statement (the work); the ties are given (YtbikimkmkchkhaaDoorTie.lean); close each card by the builder's one call (the guide's Derived/Test/ToyasCard.lean, 'card_holds'). Laid BY PROGRAM, IN A SANDBOX (cutbox-door.mjs). By AI agents, Wed Nov 11 2026. No macro, syntax, notation, axiom, sorry.
-/
import Derived.Test.YtbikimkmkchkhaaDoorRows
import GoSem.ClaimSeven
namespace Go.Proofs.YtbikimkmkchkhaaDoor
namespace Rows

/-- THE TIED CARD OF 'sutlerlaw17.VersionOrders'. -/
def versionOrdersCard : Claim7 := { stood := { row := versionOrdersRow, standIns := [], harness := (true, "8ccfdd0f71a3d7ca10fedeceee581c3d644b2dc384d11945df191fb934bb586d"), looks := true }, kinds := [], alts := [], laidByText := true, laidKinds := [.data, .data, .data, .data, .sentinel, .sentinel, .pinned], laidTests := true, laidLooks := .later }
def VersionOrdersCardSaid : Prop := Claim7.holds Tryd.pinned (.plain (OpenSpec.ofChange versionOrdersSpec)) versionOrdersCard

/-- THE TIED CARD OF 'sutlerlaw17.VersionHolds'. -/
def versionHoldsCard : Claim7 := { stood := { row := versionHoldsRow, standIns := [], harness := (true, "8ccfdd0f71a3d7ca10fedeceee581c3d644b2dc384d11945df191fb934bb586d"), looks := true }, kinds := [], alts := [], laidByText := true, laidKinds := [.data, .data, .data, .data, .sentinel, .sentinel, .pinned], laidTests := true, laidLooks := .later }
def VersionHoldsCardSaid : Prop := Claim7.holds Tryd.pinned (.plain (OpenSpec.ofChange versionHoldsSpec)) versionHoldsCard

/-- THE TIED CARD OF 'sutlerlaw17.VersionOps'. -/
def versionOpsCard : Claim7 := { stood := { row := versionOpsRow, standIns := [], harness := (true, "8ccfdd0f71a3d7ca10fedeceee581c3d644b2dc384d11945df191fb934bb586d"), looks := true }, kinds := [], alts := [], laidByText := true, laidKinds := [.data, .data, .data, .data, .sentinel, .sentinel, .pinned], laidTests := true, laidLooks := .later }
def VersionOpsCardSaid : Prop := Claim7.holds Tryd.pinned (.plain (OpenSpec.ofChange versionOpsSpec)) versionOpsCard

/-- THE TIED CARD OF 'sutlerlaw17.VersionBack'. -/
def versionBackCard : Claim7 := { stood := { row := versionBackRow, standIns := [], harness := (true, "8ccfdd0f71a3d7ca10fedeceee581c3d644b2dc384d11945df191fb934bb586d"), looks := true }, kinds := [], alts := [], laidByText := true, laidKinds := [.data, .data, .data, .data, .sentinel, .sentinel, .pinned], laidTests := true, laidLooks := .later }
def VersionBackCardSaid : Prop := Claim7.holds Tryd.pinned (.plain (OpenSpec.ofChange versionBackSpec)) versionBackCard

/-- THE TIED CARD OF 'sutlerlaw17.VersionSorts'. -/
def versionSortsCard : Claim7 := { stood := { row := versionSortsRow, standIns := [], harness := (true, "8ccfdd0f71a3d7ca10fedeceee581c3d644b2dc384d11945df191fb934bb586d"), looks := true }, kinds := [], alts := [], laidByText := true, laidKinds := [.data, .data, .data, .data, .sentinel, .sentinel, .pinned], laidTests := true, laidLooks := .later }
def VersionSortsCardSaid : Prop := Claim7.holds Tryd.pinned (.plain (OpenSpec.ofChange versionSortsSpec)) versionSortsCard

/-- THE SECOND FORM's CARD OF 'sutlerlaw17.VersionOrders'. -/
def versionOrdersUptoCard : Claim7 := { stood := { row := versionOrdersUptoRow, standIns := [], harness := (true, "8ccfdd0f71a3d7ca10fedeceee581c3d644b2dc384d11945df191fb934bb586d"), looks := true }, kinds := [], alts := [], laidByText := true, laidKinds := [.data, .data, .data, .data, .sentinel, .sentinel, .pinned], laidTests := true, laidLooks := .later }
def VersionOrdersUptoCardSaid : Prop := Claim7.holds Tryd.pinned (.plain (OpenSpec.upto versionOrdersSpec)) versionOrdersUptoCard

/-- THE SECOND FORM's CARD OF 'sutlerlaw17.VersionHolds'. -/
def versionHoldsUptoCard : Claim7 := { stood := { row := versionHoldsUptoRow, standIns := [], harness := (true, "8ccfdd0f71a3d7ca10fedeceee581c3d644b2dc384d11945df191fb934bb586d"), looks := true }, kinds := [], alts := [], laidByText := true, laidKinds := [.data, .data, .data, .data, .sentinel, .sentinel, .pinned], laidTests := true, laidLooks := .later }
def VersionHoldsUptoCardSaid : Prop := Claim7.holds Tryd.pinned (.plain (OpenSpec.upto versionHoldsSpec)) versionHoldsUptoCard

/-- THE SECOND FORM's CARD OF 'sutlerlaw17.VersionOps'. -/
def versionOpsUptoCard : Claim7 := { stood := { row := versionOpsUptoRow, standIns := [], harness := (true, "8ccfdd0f71a3d7ca10fedeceee581c3d644b2dc384d11945df191fb934bb586d"), looks := true }, kinds := [], alts := [], laidByText := true, laidKinds := [.data, .data, .data, .data, .sentinel, .sentinel, .pinned], laidTests := true, laidLooks := .later }
def VersionOpsUptoCardSaid : Prop := Claim7.holds Tryd.pinned (.plain (OpenSpec.upto versionOpsSpec)) versionOpsUptoCard

/-- THE SECOND FORM's CARD OF 'sutlerlaw17.VersionBack'. -/
def versionBackUptoCard : Claim7 := { stood := { row := versionBackUptoRow, standIns := [], harness := (true, "8ccfdd0f71a3d7ca10fedeceee581c3d644b2dc384d11945df191fb934bb586d"), looks := true }, kinds := [], alts := [], laidByText := true, laidKinds := [.data, .data, .data, .data, .sentinel, .sentinel, .pinned], laidTests := true, laidLooks := .later }
def VersionBackUptoCardSaid : Prop := Claim7.holds Tryd.pinned (.plain (OpenSpec.upto versionBackSpec)) versionBackUptoCard

/-- THE SECOND FORM's CARD OF 'sutlerlaw17.VersionSorts'. -/
def versionSortsUptoCard : Claim7 := { stood := { row := versionSortsUptoRow, standIns := [], harness := (true, "8ccfdd0f71a3d7ca10fedeceee581c3d644b2dc384d11945df191fb934bb586d"), looks := true }, kinds := [], alts := [], laidByText := true, laidKinds := [.data, .data, .data, .data, .sentinel, .sentinel, .pinned], laidTests := true, laidLooks := .later }
def VersionSortsUptoCardSaid : Prop := Claim7.holds Tryd.pinned (.plain (OpenSpec.upto versionSortsSpec)) versionSortsUptoCard
end Rows
end Go.Proofs.YtbikimkmkchkhaaDoor
