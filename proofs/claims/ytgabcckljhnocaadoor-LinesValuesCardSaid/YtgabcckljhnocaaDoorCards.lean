/-
  DERIVED. GIVEN WITH THE SEED: THE CARDS: each row of YtgabcckljhnocaaDoorRows.lean that lists a variable, with what it lists TIED to the program's text (the seventh form; the later family's looks); each row that meets fmt, with fmt's text TOLD by the authors' own Lean function (tested against real Go, not proved from fmt's source: count such statements apart). THE CARD IS WHAT COUNTS. Prove the row's statement (the work); the ties are given (YtgabcckljhnocaaDoorTie.lean); close each card by the builder's one call (the guide's Derived/Test/ToyasCard.lean, 'card_holds'). Laid BY PROGRAM, IN A SANDBOX (cutbox-door.mjs). By AI agents, Wed Nov 11 2026. No macro, syntax, notation, axiom, sorry.
-/
import Derived.Test.YtgabcckljhnocaaDoorRows
import GoSem.ClaimSeven
namespace Go.Proofs.YtgabcckljhnocaaDoor
namespace Rows

/-- THE TIED CARD OF 'postriderlaw13.LinesBack'. -/
def linesBackCard : Claim7 := { stood := { row := linesBackRow, standIns := [], harness := (true, "89b4d7e9007c5d200c880960e53ab69048be8ddc99b0bd37de61ab0cb9a2c5cb"), looks := false }, kinds := [], alts := [], laidByText := true, laidKinds := [.data, .pinned, .pinned], laidTests := true, laidLooks := .later }
def LinesBackCardSaid : Prop := Claim7.holds Tryd.pinned (.plain (OpenSpec.ofChange linesBackSpec)) linesBackCard

/-- THE TIED CARD OF 'postriderlaw13.LinesValues'. -/
def linesValuesCard : Claim7 := { stood := { row := linesValuesRow, standIns := [], harness := (true, "89b4d7e9007c5d200c880960e53ab69048be8ddc99b0bd37de61ab0cb9a2c5cb"), looks := false }, kinds := [], alts := [], laidByText := true, laidKinds := [.data, .pinned, .pinned], laidTests := true, laidLooks := .later }
def LinesValuesCardSaid : Prop := Claim7.holds Tryd.pinned (.plain (OpenSpec.ofChange linesValuesSpec)) linesValuesCard

/-- THE TIED CARD OF 'postriderlaw13.LinesKnown'. -/
def linesKnownCard : Claim7 := { stood := { row := linesKnownRow, standIns := [], harness := (true, "89b4d7e9007c5d200c880960e53ab69048be8ddc99b0bd37de61ab0cb9a2c5cb"), looks := false }, kinds := [], alts := [], laidByText := true, laidKinds := [.data, .pinned, .pinned], laidTests := true, laidLooks := .later }
def LinesKnownCardSaid : Prop := Claim7.holds Tryd.pinned (.plain (OpenSpec.ofChange linesKnownSpec)) linesKnownCard

/-- THE SECOND FORM's CARD OF 'postriderlaw13.LinesBack'. -/
def linesBackUptoCard : Claim7 := { stood := { row := linesBackUptoRow, standIns := [], harness := (true, "89b4d7e9007c5d200c880960e53ab69048be8ddc99b0bd37de61ab0cb9a2c5cb"), looks := false }, kinds := [], alts := [], laidByText := true, laidKinds := [.data, .pinned, .pinned], laidTests := true, laidLooks := .later }
def LinesBackUptoCardSaid : Prop := Claim7.holds Tryd.pinned (.plain (OpenSpec.upto linesBackSpec)) linesBackUptoCard

/-- THE SECOND FORM's CARD OF 'postriderlaw13.LinesValues'. -/
def linesValuesUptoCard : Claim7 := { stood := { row := linesValuesUptoRow, standIns := [], harness := (true, "89b4d7e9007c5d200c880960e53ab69048be8ddc99b0bd37de61ab0cb9a2c5cb"), looks := false }, kinds := [], alts := [], laidByText := true, laidKinds := [.data, .pinned, .pinned], laidTests := true, laidLooks := .later }
def LinesValuesUptoCardSaid : Prop := Claim7.holds Tryd.pinned (.plain (OpenSpec.upto linesValuesSpec)) linesValuesUptoCard

/-- THE SECOND FORM's CARD OF 'postriderlaw13.LinesKnown'. -/
def linesKnownUptoCard : Claim7 := { stood := { row := linesKnownUptoRow, standIns := [], harness := (true, "89b4d7e9007c5d200c880960e53ab69048be8ddc99b0bd37de61ab0cb9a2c5cb"), looks := false }, kinds := [], alts := [], laidByText := true, laidKinds := [.data, .pinned, .pinned], laidTests := true, laidLooks := .later }
def LinesKnownUptoCardSaid : Prop := Claim7.holds Tryd.pinned (.plain (OpenSpec.upto linesKnownSpec)) linesKnownUptoCard
end Rows
end Go.Proofs.YtgabcckljhnocaaDoor
