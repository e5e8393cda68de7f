/-
  DERIVED. GIVEN WITH THE SEED: THE CARDS: each row of YtacjnapgdikhbaaGreatDoorRows.lean that lists a variable, with what it lists TIED to the program's text (the seventh form; the later family's looks); each row that meets fmt, with fmt's text TOLD by the authors' own Lean function (tested against real Go, not proved from fmt's source: count such statements apart). THE CARD IS WHAT COUNTS. Prove the row's statement (the work); the ties are given (YtacjnapgdikhbaaGreatDoorTie.lean); close each card by the builder's one call (the guide's Derived/Test/ToyasCard.lean, 'card_holds'). Laid BY PROGRAM, IN A SANDBOX (cutbox-door.mjs). By AI agents, Wed Nov 11 2026. No macro, syntax, notation, axiom, sorry.
-/
import Derived.Test.YtacjnapgdikhbaaGreatDoorRows
import GoSem.ClaimSeven
namespace Go.Proofs.YtacjnapgdikhbaaGreatDoor
namespace Rows

/-- THE TIED CARD OF 'postriderlaw22.GuardChecks'. -/
def guardChecksCard : Claim7 := { stood := { row := guardChecksRow, standIns := [], harness := (true, "becc964eb1f037d0b794482a38c6326999c9a2c197282f9211888feb9f7c901f"), looks := false }, kinds := [], alts := [], laidByText := true, laidKinds := [.data, .data, .data, .data, .data, .pinned], laidTests := true, laidLooks := .later }
def GuardChecksCardSaid : Prop := Claim7.holds Tryz.pinned (.plain (OpenSpec.ofChange guardChecksSpec)) guardChecksCard

/-- THE TIED CARD OF 'postriderlaw22.GuardHops'. -/
def guardHopsCard : Claim7 := { stood := { row := guardHopsRow, standIns := [], harness := (true, "becc964eb1f037d0b794482a38c6326999c9a2c197282f9211888feb9f7c901f"), looks := false }, kinds := [], alts := [], laidByText := true, laidKinds := [.data, .data, .data, .data, .widerDeep, .widerDeep, .data, .data, .pinned], laidTests := true, laidLooks := .later }
def GuardHopsCardSaid : Prop := Claim7.holds Tryz.pinned (.plain (OpenSpec.ofChange guardHopsSpec)) guardHopsCard

/-- THE TIED CARD OF 'postriderlaw22.GuardLays'. -/
def guardLaysCard : Claim7 := { stood := { row := guardLaysRow, standIns := [], harness := (true, "becc964eb1f037d0b794482a38c6326999c9a2c197282f9211888feb9f7c901f"), looks := false }, kinds := [], alts := [], laidByText := true, laidKinds := [.data, .data, .data, .data, .widerDeep, .widerDeep, .data, .data, .pinned], laidTests := true, laidLooks := .later }
def GuardLaysCardSaid : Prop := Claim7.holds Tryz.pinned (.plain (OpenSpec.ofChange guardLaysSpec)) guardLaysCard

/-- THE TIED CARD OF 'postriderlaw22.GuardKnown'. -/
def guardKnownCard : Claim7 := { stood := { row := guardKnownRow, standIns := [], harness := (true, "becc964eb1f037d0b794482a38c6326999c9a2c197282f9211888feb9f7c901f"), looks := false }, kinds := [], alts := [], laidByText := true, laidKinds := [.data, .data, .data, .data, .widerDeep, .widerDeep, .data, .data, .pinned], laidTests := true, laidLooks := .later }
def GuardKnownCardSaid : Prop := Claim7.holds Tryz.pinned (.plain (OpenSpec.ofChange guardKnownSpec)) guardKnownCard

/-- THE TIED CARD OF 'postriderlaw22.GuardRound'. -/
def guardRoundCard : Claim7 := { stood := { row := guardRoundRow, standIns := [], harness := (true, "becc964eb1f037d0b794482a38c6326999c9a2c197282f9211888feb9f7c901f"), looks := false }, kinds := [], alts := [], laidByText := true, laidKinds := [.data, .data, .data, .data, .data, .pinned, .pinned], laidTests := true, laidLooks := .later }
def GuardRoundCardSaid : Prop := Claim7.holds Tryz.pinned (.plain (OpenSpec.ofChange guardRoundSpec)) guardRoundCard

/-- THE SECOND FORM's CARD OF 'postriderlaw22.GuardChecks'. -/
def guardChecksUptoCard : Claim7 := { stood := { row := guardChecksUptoRow, standIns := [], harness := (true, "becc964eb1f037d0b794482a38c6326999c9a2c197282f9211888feb9f7c901f"), looks := false }, kinds := [], alts := [], laidByText := true, laidKinds := [.data, .data, .data, .data, .data, .pinned], laidTests := true, laidLooks := .later }
def GuardChecksUptoCardSaid : Prop := Claim7.holds Tryz.pinned (.plain (OpenSpec.upto guardChecksSpec)) guardChecksUptoCard

/-- THE SECOND FORM's CARD OF 'postriderlaw22.GuardHops'. -/
def guardHopsUptoCard : Claim7 := { stood := { row := guardHopsUptoRow, standIns := [], harness := (true, "becc964eb1f037d0b794482a38c6326999c9a2c197282f9211888feb9f7c901f"), looks := false }, kinds := [], alts := [], laidByText := true, laidKinds := [.data, .data, .data, .data, .widerDeep, .widerDeep, .data, .data, .pinned], laidTests := true, laidLooks := .later }
def GuardHopsUptoCardSaid : Prop := Claim7.holds Tryz.pinned (.plain (OpenSpec.upto guardHopsSpec)) guardHopsUptoCard

/-- THE SECOND FORM's CARD OF 'postriderlaw22.GuardLays'. -/
def guardLaysUptoCard : Claim7 := { stood := { row := guardLaysUptoRow, standIns := [], harness := (true, "becc964eb1f037d0b794482a38c6326999c9a2c197282f9211888feb9f7c901f"), looks := false }, kinds := [], alts := [], laidByText := true, laidKinds := [.data, .data, .data, .data, .widerDeep, .widerDeep, .data, .data, .pinned], laidTests := true, laidLooks := .later }
def GuardLaysUptoCardSaid : Prop := Claim7.holds Tryz.pinned (.plain (OpenSpec.upto guardLaysSpec)) guardLaysUptoCard

/-- THE SECOND FORM's CARD OF 'postriderlaw22.GuardKnown'. -/
def guardKnownUptoCard : Claim7 := { stood := { row := guardKnownUptoRow, standIns := [], harness := (true, "becc964eb1f037d0b794482a38c6326999c9a2c197282f9211888feb9f7c901f"), looks := false }, kinds := [], alts := [], laidByText := true, laidKinds := [.data, .data, .data, .data, .widerDeep, .widerDeep, .data, .data, .pinned], laidTests := true, laidLooks := .later }
def GuardKnownUptoCardSaid : Prop := Claim7.holds Tryz.pinned (.plain (OpenSpec.upto guardKnownSpec)) guardKnownUptoCard

/-- THE SECOND FORM's CARD OF 'postriderlaw22.GuardRound'. -/
def guardRoundUptoCard : Claim7 := { stood := { row := guardRoundUptoRow, standIns := [], harness := (true, "becc964eb1f037d0b794482a38c6326999c9a2c197282f9211888feb9f7c901f"), looks := false }, kinds := [], alts := [], laidByText := true, laidKinds := [.data, .data, .data, .data, .data, .pinned, .pinned], laidTests := true, laidLooks := .later }
def GuardRoundUptoCardSaid : Prop := Claim7.holds Tryz.pinned (.plain (OpenSpec.upto guardRoundSpec)) guardRoundUptoCard
end Rows
end Go.Proofs.YtacjnapgdikhbaaGreatDoor
