/-
  DERIVED. GIVEN WITH THE SEED: THE CARDS: each row of YteblbggmchcijaaDoorRows.lean that lists a variable, with what it lists TIED to the program's text (the seventh form; the later family's looks); each row that meets fmt, with fmt's text TOLD by the authors' own Lean function (tested against real Go, not proved from fmt's source: count such statements apart). THE CARD IS WHAT COUNTS. Prove the row's statement (the work); the ties are given (YteblbggmchcijaaDoorTie.lean); close each card by the builder's one call (the guide's Derived/Test/ToyasCard.lean, 'card_holds'). Laid BY PROGRAM, IN A SANDBOX (cutbox-door.mjs). By AI agents, Wed Nov 11 2026. No macro, syntax, notation, axiom, sorry.
-/
import Derived.Test.YteblbggmchcijaaDoorRows
import GoSem.ClaimSeven
namespace Go.Proofs.YteblbggmchcijaaDoor
namespace Rows

/-- THE TIED CARD OF 'sutlerlaw13.HeadReads'. -/
def headReadsCard : Claim7 := { stood := { row := headReadsRow, standIns := [], harness := (true, "fa3a1758b6d5b783bfdde6432ec0f028f7a6742c03688596fea1ff329b40a182"), looks := false }, kinds := [], alts := [], laidByText := true, laidKinds := [.data, .data, .pinned], laidTests := true, laidLooks := .later }
def HeadReadsCardSaid : Prop := Claim7.holds Tryd.pinned (.plain (OpenSpec.ofChange headReadsSpec)) headReadsCard

/-- THE TIED CARD OF 'sutlerlaw13.HeadNumbers'. -/
def headNumbersCard : Claim7 := { stood := { row := headNumbersRow, standIns := [], harness := (true, "fa3a1758b6d5b783bfdde6432ec0f028f7a6742c03688596fea1ff329b40a182"), looks := false }, kinds := [], alts := [], laidByText := true, laidKinds := [.data, .data, .pinned], laidTests := true, laidLooks := .later }
def HeadNumbersCardSaid : Prop := Claim7.holds Tryd.pinned (.plain (OpenSpec.ofChange headNumbersSpec)) headNumbersCard

/-- THE TIED CARD OF 'sutlerlaw13.HeadWrites'. -/
def headWritesCard : Claim7 := { stood := { row := headWritesRow, standIns := [], harness := (true, "fa3a1758b6d5b783bfdde6432ec0f028f7a6742c03688596fea1ff329b40a182"), looks := false }, kinds := [], alts := [], laidByText := true, laidKinds := [.data, .data, .pinned], laidTests := true, laidLooks := .later }
def HeadWritesCardSaid : Prop := Claim7.holds Tryd.pinned (.plain (OpenSpec.ofChange headWritesSpec)) headWritesCard

/-- THE TIED CARD OF 'sutlerlaw13.HeadBack'. -/
def headBackCard : Claim7 := { stood := { row := headBackRow, standIns := [], harness := (true, "fa3a1758b6d5b783bfdde6432ec0f028f7a6742c03688596fea1ff329b40a182"), looks := false }, kinds := [], alts := [], laidByText := true, laidKinds := [.data, .data, .pinned], laidTests := true, laidLooks := .later }
def HeadBackCardSaid : Prop := Claim7.holds Tryd.pinned (.plain (OpenSpec.ofChange headBackSpec)) headBackCard

/-- THE TIED CARD OF 'sutlerlaw13.HeadFinds'. -/
def headFindsCard : Claim7 := { stood := { row := headFindsRow, standIns := [], harness := (true, "fa3a1758b6d5b783bfdde6432ec0f028f7a6742c03688596fea1ff329b40a182"), looks := false }, kinds := [], alts := [], laidByText := true, laidKinds := [.data, .data, .pinned], laidTests := true, laidLooks := .later }
def HeadFindsCardSaid : Prop := Claim7.holds Tryd.pinned (.plain (OpenSpec.ofChange headFindsSpec)) headFindsCard

/-- THE TIED CARD OF 'sutlerlaw13.HeadWithin'. -/
def headWithinCard : Claim7 := { stood := { row := headWithinRow, standIns := [], harness := (true, "fa3a1758b6d5b783bfdde6432ec0f028f7a6742c03688596fea1ff329b40a182"), looks := false }, kinds := [], alts := [], laidByText := true, laidKinds := [.data, .data, .pinned], laidTests := true, laidLooks := .later }
def HeadWithinCardSaid : Prop := Claim7.holds Tryd.pinned (.plain (OpenSpec.ofChange headWithinSpec)) headWithinCard

/-- THE SECOND FORM's CARD OF 'sutlerlaw13.HeadReads'. -/
def headReadsUptoCard : Claim7 := { stood := { row := headReadsUptoRow, standIns := [], harness := (true, "fa3a1758b6d5b783bfdde6432ec0f028f7a6742c03688596fea1ff329b40a182"), looks := false }, kinds := [], alts := [], laidByText := true, laidKinds := [.data, .data, .pinned], laidTests := true, laidLooks := .later }
def HeadReadsUptoCardSaid : Prop := Claim7.holds Tryd.pinned (.plain (OpenSpec.upto headReadsSpec)) headReadsUptoCard

/-- THE SECOND FORM's CARD OF 'sutlerlaw13.HeadNumbers'. -/
def headNumbersUptoCard : Claim7 := { stood := { row := headNumbersUptoRow, standIns := [], harness := (true, "fa3a1758b6d5b783bfdde6432ec0f028f7a6742c03688596fea1ff329b40a182"), looks := false }, kinds := [], alts := [], laidByText := true, laidKinds := [.data, .data, .pinned], laidTests := true, laidLooks := .later }
def HeadNumbersUptoCardSaid : Prop := Claim7.holds Tryd.pinned (.plain (OpenSpec.upto headNumbersSpec)) headNumbersUptoCard

/-- THE SECOND FORM's CARD OF 'sutlerlaw13.HeadWrites'. -/
def headWritesUptoCard : Claim7 := { stood := { row := headWritesUptoRow, standIns := [], harness := (true, "fa3a1758b6d5b783bfdde6432ec0f028f7a6742c03688596fea1ff329b40a182"), looks := false }, kinds := [], alts := [], laidByText := true, laidKinds := [.data, .data, .pinned], laidTests := true, laidLooks := .later }
def HeadWritesUptoCardSaid : Prop := Claim7.holds Tryd.pinned (.plain (OpenSpec.upto headWritesSpec)) headWritesUptoCard

/-- THE SECOND FORM's CARD OF 'sutlerlaw13.HeadBack'. -/
def headBackUptoCard : Claim7 := { stood := { row := headBackUptoRow, standIns := [], harness := (true, "fa3a1758b6d5b783bfdde6432ec0f028f7a6742c03688596fea1ff329b40a182"), looks := false }, kinds := [], alts := [], laidByText := true, laidKinds := [.data, .data, .pinned], laidTests := true, laidLooks := .later }
def HeadBackUptoCardSaid : Prop := Claim7.holds Tryd.pinned (.plain (OpenSpec.upto headBackSpec)) headBackUptoCard

/-- THE SECOND FORM's CARD OF 'sutlerlaw13.HeadFinds'. -/
def headFindsUptoCard : Claim7 := { stood := { row := headFindsUptoRow, standIns := [], harness := (true, "fa3a1758b6d5b783bfdde6432ec0f028f7a6742c03688596fea1ff329b40a182"), looks := false }, kinds := [], alts := [], laidByText := true, laidKinds := [.data, .data, .pinned], laidTests := true, laidLooks := .later }
def HeadFindsUptoCardSaid : Prop := Claim7.holds Tryd.pinned (.plain (OpenSpec.upto headFindsSpec)) headFindsUptoCard

/-- THE SECOND FORM's CARD OF 'sutlerlaw13.HeadWithin'. -/
def headWithinUptoCard : Claim7 := { stood := { row := headWithinUptoRow, standIns := [], harness := (true, "fa3a1758b6d5b783bfdde6432ec0f028f7a6742c03688596fea1ff329b40a182"), looks := false }, kinds := [], alts := [], laidByText := true, laidKinds := [.data, .data, .pinned], laidTests := true, laidLooks := .later }
def HeadWithinUptoCardSaid : Prop := Claim7.holds Tryd.pinned (.plain (OpenSpec.upto headWithinSpec)) headWithinUptoCard
end Rows
end Go.Proofs.YteblbggmchcijaaDoor
