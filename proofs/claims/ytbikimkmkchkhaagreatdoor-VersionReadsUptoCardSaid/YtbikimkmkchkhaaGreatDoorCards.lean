/-
  DERIVED. GIVEN WITH THE SEED: THE CARDS: each row of YtbikimkmkchkhaaGreatDoorRows.lean that lists a variable, with what it lists TIED to the program's text (the seventh form; the later family's looks); each row that meets fmt, with fmt's text TOLD by the authors' own Lean function (tested against real Go, not proved from fmt's source: count such statements apart). THE CARD IS WHAT COUNTS. Prove the row's statement (the work); the ties are given (YtbikimkmkchkhaaGreatDoorTie.lean); close each card by the builder's one call (the guide's Derived/Test/ToyasCard.lean, 'card_holds'). Laid BY PROGRAM, IN A SANDBOX (cutbox-door.mjs). By AI agents, Wed Nov 11 2026. No macro, syntax, notation, axiom, sorry.
-/
import Derived.Test.YtbikimkmkchkhaaGreatDoorRows
import GoSem.ClaimSeven
namespace Go.Proofs.YtbikimkmkchkhaaGreatDoor
namespace Rows

/-- THE TIED CARD OF 'sutlerlaw17.VersionReads'. -/
def versionReadsCard : Claim7 := { stood := { row := versionReadsRow, standIns := [], harness := (true, "452b32ee64c3651ce16ddaec9b67d6ffabec499dcce93c39855ce8b654659794"), looks := true }, kinds := [], alts := [], laidByText := true, laidKinds := [.data, .data, .data, .data, .sentinel, .sentinel, .pinned], laidTests := true, laidLooks := .later }
def VersionReadsCardSaid : Prop := Claim7.holds Tryz.pinned (.plain (OpenSpec.ofChange versionReadsSpec)) versionReadsCard

/-- THE SECOND FORM's CARD OF 'sutlerlaw17.VersionReads'. -/
def versionReadsUptoCard : Claim7 := { stood := { row := versionReadsUptoRow, standIns := [], harness := (true, "452b32ee64c3651ce16ddaec9b67d6ffabec499dcce93c39855ce8b654659794"), looks := true }, kinds := [], alts := [], laidByText := true, laidKinds := [.data, .data, .data, .data, .sentinel, .sentinel, .pinned], laidTests := true, laidLooks := .later }
def VersionReadsUptoCardSaid : Prop := Claim7.holds Tryz.pinned (.plain (OpenSpec.upto versionReadsSpec)) versionReadsUptoCard
end Rows
end Go.Proofs.YtbikimkmkchkhaaGreatDoor
