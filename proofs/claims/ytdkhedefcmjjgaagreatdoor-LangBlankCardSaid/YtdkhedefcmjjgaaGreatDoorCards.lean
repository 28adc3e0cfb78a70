/-
  DERIVED. GIVEN WITH THE SEED: THE CARDS: each row of YtdkhedefcmjjgaaGreatDoorRows.lean that lists a variable, with what it lists TIED to the program's text (the seventh form; the later family's looks); each row that meets fmt, with fmt's text TOLD by the authors' own Lean function (tested against real Go, not proved from fmt's source: count such statements apart). THE CARD IS WHAT COUNTS. Prove the row's statement (the work); the ties are given (YtdkhedefcmjjgaaGreatDoorTie.lean); close each card by the builder's one call (the guide's Derived/Test/ToyasCard.lean, 'card_holds'). Laid BY PROGRAM, IN A SANDBOX (cutbox-door.mjs). By AI agents, Wed Nov 11 2026. No macro, syntax, notation, axiom, sorry.
-/
import Derived.Test.YtdkhedefcmjjgaaGreatDoorRows
import GoSem.ClaimSeven
namespace Go.Proofs.YtdkhedefcmjjgaaGreatDoor
namespace Rows

/-- THE TIED CARD OF 'pupillaw27.LangBlank'. -/
def langBlankCard : Claim7 := { stood := { row := langBlankRow, standIns := [], harness := (true, "372fdc3e00beeca64bf37a5856b7e1281a6f18c9a10e553a6fb4927df69a2b5d"), looks := true }, kinds := [], alts := [], laidByText := true, laidKinds := [.data, .data, .widerDeep, .widerDeep, .data, .data, .data, .data, .data, .data, .sentinel, .sentinel, .listed, .data, .pinned, .pinned, .pinned, .pinned], laidTests := true, laidLooks := .later }
def LangBlankCardSaid : Prop := Claim7.holds Tryz.pinned (.plain (OpenSpec.ofChange langBlankSpec)) langBlankCard

/-- THE TIED CARD OF 'pupillaw27.LangLong'. -/
def langLongCard : Claim7 := { stood := { row := langLongRow, standIns := [], harness := (true, "372fdc3e00beeca64bf37a5856b7e1281a6f18c9a10e553a6fb4927df69a2b5d"), looks := true }, kinds := [], alts := [], laidByText := true, laidKinds := [.data, .data, .widerDeep, .widerDeep, .data, .data, .data, .data, .data, .data, .sentinel, .sentinel, .listed, .data, .pinned, .pinned, .pinned, .pinned], laidTests := true, laidLooks := .later }
def LangLongCardSaid : Prop := Claim7.holds Tryz.pinned (.plain (OpenSpec.ofChange langLongSpec)) langLongCard

/-- THE SECOND FORM's CARD OF 'pupillaw27.LangBlank'. -/
def langBlankUptoCard : Claim7 := { stood := { row := langBlankUptoRow, standIns := [], harness := (true, "372fdc3e00beeca64bf37a5856b7e1281a6f18c9a10e553a6fb4927df69a2b5d"), looks := true }, kinds := [], alts := [], laidByText := true, laidKinds := [.data, .data, .widerDeep, .widerDeep, .data, .data, .data, .data, .data, .data, .sentinel, .sentinel, .listed, .data, .pinned, .pinned, .pinned, .pinned], laidTests := true, laidLooks := .later }
def LangBlankUptoCardSaid : Prop := Claim7.holds Tryz.pinned (.plain (OpenSpec.upto langBlankSpec)) langBlankUptoCard

/-- THE SECOND FORM's CARD OF 'pupillaw27.LangLong'. -/
def langLongUptoCard : Claim7 := { stood := { row := langLongUptoRow, standIns := [], harness := (true, "372fdc3e00beeca64bf37a5856b7e1281a6f18c9a10e553a6fb4927df69a2b5d"), looks := true }, kinds := [], alts := [], laidByText := true, laidKinds := [.data, .data, .widerDeep, .widerDeep, .data, .data, .data, .data, .data, .data, .sentinel, .sentinel, .listed, .data, .pinned, .pinned, .pinned, .pinned], laidTests := true, laidLooks := .later }
def LangLongUptoCardSaid : Prop := Claim7.holds Tryz.pinned (.plain (OpenSpec.upto langLongSpec)) langLongUptoCard
end Rows
end Go.Proofs.YtdkhedefcmjjgaaGreatDoor
