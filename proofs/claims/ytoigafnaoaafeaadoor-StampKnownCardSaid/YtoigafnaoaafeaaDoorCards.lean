/-
  DERIVED. GIVEN WITH THE SEED: THE CARDS: each row of YtoigafnaoaafeaaDoorRows.lean that lists a variable, with what it lists TIED to the program's text (the seventh form; the later family's looks); each row that meets fmt, with fmt's text TOLD by the authors' own Lean function (tested against real Go, not proved from fmt's source: count such statements apart). THE CARD IS WHAT COUNTS. Prove the row's statement (the work); the ties are given (YtoigafnaoaafeaaDoorTie.lean); close each card by the builder's one call (the guide's Derived/Test/ToyasCard.lean, 'card_holds'). Laid BY PROGRAM, IN A SANDBOX (cutbox-door.mjs). By AI agents, Wed Nov 11 2026. No macro, syntax, notation, axiom, sorry.
-/
import Derived.Test.YtoigafnaoaafeaaDoorRows
import GoSem.ClaimSeven
namespace Go.Proofs.YtoigafnaoaafeaaDoor
namespace Rows

/-- THE TIED CARD OF 'postriderlaw09.StampTells'. -/
def stampTellsCard : Claim7 := { stood := { row := stampTellsRow, standIns := [], harness := (true, "f4077ad90e954dc2dc2ae25808bc7d2f95953d748f2ce7131f68e8855ba603b6"), looks := true }, kinds := [], alts := [], laidByText := true, laidKinds := [.data, .data, .data, .widerDeep, .widerDeep, .data], laidTests := true, laidLooks := .later }
def StampTellsCardSaid : Prop := Claim7.holds Tryd.pinned (.plain (OpenSpec.ofChange stampTellsSpec)) stampTellsCard

/-- THE TIED CARD OF 'postriderlaw09.StampDays'. -/
def stampDaysCard : Claim7 := { stood := { row := stampDaysRow, standIns := [], harness := (true, "f4077ad90e954dc2dc2ae25808bc7d2f95953d748f2ce7131f68e8855ba603b6"), looks := true }, kinds := [], alts := [], laidByText := true, laidKinds := [.data, .data, .data, .widerDeep, .widerDeep, .data], laidTests := true, laidLooks := .later }
def StampDaysCardSaid : Prop := Claim7.holds Tryd.pinned (.plain (OpenSpec.ofChange stampDaysSpec)) stampDaysCard

/-- THE TIED CARD OF 'postriderlaw09.StampAges'. -/
def stampAgesCard : Claim7 := { stood := { row := stampAgesRow, standIns := [], harness := (true, "f4077ad90e954dc2dc2ae25808bc7d2f95953d748f2ce7131f68e8855ba603b6"), looks := true }, kinds := [], alts := [], laidByText := true, laidKinds := [.data, .data, .data, .data, .widerDeep, .widerDeep, .data, .pinned, .pinned], laidTests := true, laidLooks := .later }
def StampAgesCardSaid : Prop := Claim7.holds Tryd.pinned (.plain (OpenSpec.ofChange stampAgesSpec)) stampAgesCard

/-- THE TIED CARD OF 'postriderlaw09.StampDates'. -/
def stampDatesCard : Claim7 := { stood := { row := stampDatesRow, standIns := [], harness := (true, "f4077ad90e954dc2dc2ae25808bc7d2f95953d748f2ce7131f68e8855ba603b6"), looks := true }, kinds := [], alts := [], laidByText := true, laidKinds := [.data, .data, .data, .data, .sentinel, .sentinel, .widerDeep, .widerDeep, .data, .pinned], laidTests := true, laidLooks := .later }
def StampDatesCardSaid : Prop := Claim7.holds Tryd.pinned (.plain (OpenSpec.ofChange stampDatesSpec)) stampDatesCard

/-- THE TIED CARD OF 'postriderlaw09.StampKnown'. -/
def stampKnownCard : Claim7 := { stood := { row := stampKnownRow, standIns := [], harness := (true, "f4077ad90e954dc2dc2ae25808bc7d2f95953d748f2ce7131f68e8855ba603b6"), looks := true }, kinds := [], alts := [], laidByText := true, laidKinds := [.data, .data, .data, .data, .sentinel, .sentinel, .widerDeep, .widerDeep, .data, .pinned], laidTests := true, laidLooks := .later }
def StampKnownCardSaid : Prop := Claim7.holds Tryd.pinned (.plain (OpenSpec.ofChange stampKnownSpec)) stampKnownCard

/-- THE SECOND FORM's CARD OF 'postriderlaw09.StampTells'. -/
def stampTellsUptoCard : Claim7 := { stood := { row := stampTellsUptoRow, standIns := [], harness := (true, "f4077ad90e954dc2dc2ae25808bc7d2f95953d748f2ce7131f68e8855ba603b6"), looks := true }, kinds := [], alts := [], laidByText := true, laidKinds := [.data, .data, .data, .widerDeep, .widerDeep, .data], laidTests := true, laidLooks := .later }
def StampTellsUptoCardSaid : Prop := Claim7.holds Tryd.pinned (.plain (OpenSpec.upto stampTellsSpec)) stampTellsUptoCard

/-- THE SECOND FORM's CARD OF 'postriderlaw09.StampDays'. -/
def stampDaysUptoCard : Claim7 := { stood := { row := stampDaysUptoRow, standIns := [], harness := (true, "f4077ad90e954dc2dc2ae25808bc7d2f95953d748f2ce7131f68e8855ba603b6"), looks := true }, kinds := [], alts := [], laidByText := true, laidKinds := [.data, .data, .data, .widerDeep, .widerDeep, .data], laidTests := true, laidLooks := .later }
def StampDaysUptoCardSaid : Prop := Claim7.holds Tryd.pinned (.plain (OpenSpec.upto stampDaysSpec)) stampDaysUptoCard

/-- THE SECOND FORM's CARD OF 'postriderlaw09.StampAges'. -/
def stampAgesUptoCard : Claim7 := { stood := { row := stampAgesUptoRow, standIns := [], harness := (true, "f4077ad90e954dc2dc2ae25808bc7d2f95953d748f2ce7131f68e8855ba603b6"), looks := true }, kinds := [], alts := [], laidByText := true, laidKinds := [.data, .data, .data, .data, .widerDeep, .widerDeep, .data, .pinned, .pinned], laidTests := true, laidLooks := .later }
def StampAgesUptoCardSaid : Prop := Claim7.holds Tryd.pinned (.plain (OpenSpec.upto stampAgesSpec)) stampAgesUptoCard

/-- THE SECOND FORM's CARD OF 'postriderlaw09.StampDates'. -/
def stampDatesUptoCard : Claim7 := { stood := { row := stampDatesUptoRow, standIns := [], harness := (true, "f4077ad90e954dc2dc2ae25808bc7d2f95953d748f2ce7131f68e8855ba603b6"), looks := true }, kinds := [], alts := [], laidByText := true, laidKinds := [.data, .data, .data, .data, .sentinel, .sentinel, .widerDeep, .widerDeep, .data, .pinned], laidTests := true, laidLooks := .later }
def StampDatesUptoCardSaid : Prop := Claim7.holds Tryd.pinned (.plain (OpenSpec.upto stampDatesSpec)) stampDatesUptoCard

/-- THE SECOND FORM's CARD OF 'postriderlaw09.StampKnown'. -/
def stampKnownUptoCard : Claim7 := { stood := { row := stampKnownUptoRow, standIns := [], harness := (true, "f4077ad90e954dc2dc2ae25808bc7d2f95953d748f2ce7131f68e8855ba603b6"), looks := true }, kinds := [], alts := [], laidByText := true, laidKinds := [.data, .data, .data, .data, .sentinel, .sentinel, .widerDeep, .widerDeep, .data, .pinned], laidTests := true, laidLooks := .later }
def StampKnownUptoCardSaid : Prop := Claim7.holds Tryd.pinned (.plain (OpenSpec.upto stampKnownSpec)) stampKnownUptoCard
end Rows
end Go.Proofs.YtoigafnaoaafeaaDoor
