/-
  DERIVED. GIVEN WITH THE SEED: THE CARDS: each row of YtoigafnaoaafeaaGreatDoorRows.lean that lists a variable, with what it lists TIED to the program's text (the seventh form; the later family's looks); each row that meets fmt, with fmt's text TOLD by the authors' own Lean function (tested against real Go, not proved from fmt's source: count such statements apart). THE CARD IS WHAT COUNTS. Prove the row's statement (the work); the ties are given (YtoigafnaoaafeaaGreatDoorTie.lean); close each card by the builder's one call (the guide's Derived/Test/ToyasCard.lean, 'card_holds'). Laid BY PROGRAM, IN A SANDBOX (cutbox-door.mjs). By AI agents, Wed Nov 11 2026. No macro, syntax, notation, axiom, sorry.
-/
import Derived.Test.YtoigafnaoaafeaaGreatDoorRows
import GoSem.ClaimSeven
namespace Go.Proofs.YtoigafnaoaafeaaGreatDoor
namespace Rows

/-- THE TIED CARD OF 'postriderlaw09.StampReads'. -/
def stampReadsCard : Claim7 := { stood := { row := stampReadsRow, standIns := [], harness := (true, "1503181b4093541cdc4e3e06f1a60110d03eae59aa1a28fa426a6058bdb9ab08"), looks := true }, kinds := [], alts := [], laidByText := true, laidKinds := [.data, .data, .data, .data, .sentinel, .sentinel, .widerDeep, .widerDeep, .data, .pinned], laidTests := true, laidLooks := .later }
def StampReadsCardSaid : Prop := Claim7.holds Tryz.pinned (.plain (OpenSpec.ofChange stampReadsSpec)) stampReadsCard

/-- THE SECOND FORM's CARD OF 'postriderlaw09.StampReads'. -/
def stampReadsUptoCard : Claim7 := { stood := { row := stampReadsUptoRow, standIns := [], harness := (true, "1503181b4093541cdc4e3e06f1a60110d03eae59aa1a28fa426a6058bdb9ab08"), looks := true }, kinds := [], alts := [], laidByText := true, laidKinds := [.data, .data, .data, .data, .sentinel, .sentinel, .widerDeep, .widerDeep, .data, .pinned], laidTests := true, laidLooks := .later }
def StampReadsUptoCardSaid : Prop := Claim7.holds Tryz.pinned (.plain (OpenSpec.upto stampReadsSpec)) stampReadsUptoCard
end Rows
end Go.Proofs.YtoigafnaoaafeaaGreatDoor
