/-
  DERIVED. GIVEN WITH THE SEED: THE CARDS: each row of YtdciiahlakgikabDoorRows.lean that lists a variable, with what it lists TIED to the program's text (the seventh form; the later family's looks); each row that meets fmt, with fmt's text TOLD by the authors' own Lean function (tested against real Go, not proved from fmt's source: count such statements apart). THE CARD IS WHAT COUNTS. Prove the row's statement (the work); the ties are given (YtdciiahlakgikabDoorTie.lean); close each card by the builder's one call (the guide's Derived/Test/ToyasCard.lean, 'card_holds'). Laid BY PROGRAM, IN A SANDBOX (cutbox-door.mjs). By AI agents, Wed Nov 11 2026. No macro, syntax, notation, axiom, sorry.
-/
import Derived.Test.YtdciiahlakgikabDoorRows
import GoSem.ClaimSeven
namespace Go.Proofs.YtdciiahlakgikabDoor
namespace Rows

/-- THE TIED CARD OF 'postriderlaw07.HeadReadsAgain'. -/
def headReadsAgainCard : Claim7 := { stood := { row := headReadsAgainRow, standIns := [], harness := (true, "0b7bb5f278ff965eaac4907d8162f715d1747746db1f86b463fdf38ce15cf5bf"), looks := false }, kinds := [], alts := [], laidByText := true, laidKinds := [.data, .pinned, .pinned], laidTests := true, laidLooks := .later }
def HeadReadsAgainCardSaid : Prop := Claim7.holds Tryd.pinned (.plain (OpenSpec.ofChange headReadsAgainSpec)) headReadsAgainCard

/-- THE SECOND FORM's CARD OF 'postriderlaw07.HeadReadsAgain'. -/
def headReadsAgainUptoCard : Claim7 := { stood := { row := headReadsAgainUptoRow, standIns := [], harness := (true, "0b7bb5f278ff965eaac4907d8162f715d1747746db1f86b463fdf38ce15cf5bf"), looks := false }, kinds := [], alts := [], laidByText := true, laidKinds := [.data, .pinned, .pinned], laidTests := true, laidLooks := .later }
def HeadReadsAgainUptoCardSaid : Prop := Claim7.holds Tryd.pinned (.plain (OpenSpec.upto headReadsAgainSpec)) headReadsAgainUptoCard
end Rows
end Go.Proofs.YtdciiahlakgikabDoor
