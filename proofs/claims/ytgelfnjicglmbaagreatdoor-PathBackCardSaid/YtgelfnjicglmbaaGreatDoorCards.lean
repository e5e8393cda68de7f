/-
  DERIVED. GIVEN WITH THE SEED: THE CARDS: each row of YtgelfnjicglmbaaGreatDoorRows.lean that lists a variable, with what it lists TIED to the program's text (the seventh form; the later family's looks); each row that meets fmt, with fmt's text TOLD by the authors' own Lean function (tested against real Go, not proved from fmt's source: count such statements apart). THE CARD IS WHAT COUNTS. Prove the row's statement (the work); the ties are given (YtgelfnjicglmbaaGreatDoorTie.lean); close each card by the builder's one call (the guide's Derived/Test/ToyasCard.lean, 'card_holds'). Laid BY PROGRAM, IN A SANDBOX (cutbox-door.mjs). By AI agents, Wed Nov 11 2026. No macro, syntax, notation, axiom, sorry.
-/
import Derived.Test.YtgelfnjicglmbaaGreatDoorRows
import GoSem.ClaimSeven
namespace Go.Proofs.YtgelfnjicglmbaaGreatDoor
namespace Rows

/-- THE TIED CARD OF 'postriderlaw06.PathTells'. -/
def pathTellsCard : Claim7 := { stood := { row := pathTellsRow, standIns := [], harness := (true, "dfbaf619084a37e5ddf55e09f36de56a754ffb01922194f7b93c4ecd59bb3254"), looks := false }, kinds := [], alts := [], laidByText := true, laidKinds := [.data, .data, .data, .data, .data, .funcs, .pinned], laidTests := true, laidLooks := .later }
def PathTellsCardSaid : Prop := Claim7.holds Tryz.pinned (.plain (OpenSpec.ofChange pathTellsSpec)) pathTellsCard

/-- THE TIED CARD OF 'postriderlaw06.PathBack'. -/
def pathBackCard : Claim7 := { stood := { row := pathBackRow, standIns := [], harness := (true, "dfbaf619084a37e5ddf55e09f36de56a754ffb01922194f7b93c4ecd59bb3254"), looks := false }, kinds := [], alts := [], laidByText := true, laidKinds := [.data, .data, .data, .data, .data, .funcs, .pinned], laidTests := true, laidLooks := .later }
def PathBackCardSaid : Prop := Claim7.holds Tryz.pinned (.plain (OpenSpec.ofChange pathBackSpec)) pathBackCard

/-- THE TIED CARD OF 'postriderlaw06.PathKnown'. -/
def pathKnownCard : Claim7 := { stood := { row := pathKnownRow, standIns := [], harness := (true, "dfbaf619084a37e5ddf55e09f36de56a754ffb01922194f7b93c4ecd59bb3254"), looks := false }, kinds := [], alts := [], laidByText := true, laidKinds := [.data, .data, .data, .data, .data, .funcs, .pinned], laidTests := true, laidLooks := .later }
def PathKnownCardSaid : Prop := Claim7.holds Tryz.pinned (.plain (OpenSpec.ofChange pathKnownSpec)) pathKnownCard

/-- THE TIED CARD OF 'postriderlaw06.PathRoutes'. -/
def pathRoutesCard : Claim7 := { stood := { row := pathRoutesRow, standIns := [], harness := (true, "dfbaf619084a37e5ddf55e09f36de56a754ffb01922194f7b93c4ecd59bb3254"), looks := false }, kinds := [], alts := [], laidByText := true, laidKinds := [.data, .data, .data, .data, .data, .funcs, .pinned], laidTests := true, laidLooks := .later }
def PathRoutesCardSaid : Prop := Claim7.holds Tryz.pinned (.plain (OpenSpec.ofChange pathRoutesSpec)) pathRoutesCard

/-- THE TIED CARD OF 'postriderlaw06.PathParams'. -/
def pathParamsCard : Claim7 := { stood := { row := pathParamsRow, standIns := [], harness := (true, "dfbaf619084a37e5ddf55e09f36de56a754ffb01922194f7b93c4ecd59bb3254"), looks := false }, kinds := [], alts := [], laidByText := true, laidKinds := [.data, .data, .data, .data, .data, .funcs, .pinned, .pinned], laidTests := true, laidLooks := .later }
def PathParamsCardSaid : Prop := Claim7.holds Tryz.pinned (.plain (OpenSpec.ofChange pathParamsSpec)) pathParamsCard

/-- THE SECOND FORM's CARD OF 'postriderlaw06.PathTells'. -/
def pathTellsUptoCard : Claim7 := { stood := { row := pathTellsUptoRow, standIns := [], harness := (true, "dfbaf619084a37e5ddf55e09f36de56a754ffb01922194f7b93c4ecd59bb3254"), looks := false }, kinds := [], alts := [], laidByText := true, laidKinds := [.data, .data, .data, .data, .data, .funcs, .pinned], laidTests := true, laidLooks := .later }
def PathTellsUptoCardSaid : Prop := Claim7.holds Tryz.pinned (.plain (OpenSpec.upto pathTellsSpec)) pathTellsUptoCard

/-- THE SECOND FORM's CARD OF 'postriderlaw06.PathBack'. -/
def pathBackUptoCard : Claim7 := { stood := { row := pathBackUptoRow, standIns := [], harness := (true, "dfbaf619084a37e5ddf55e09f36de56a754ffb01922194f7b93c4ecd59bb3254"), looks := false }, kinds := [], alts := [], laidByText := true, laidKinds := [.data, .data, .data, .data, .data, .funcs, .pinned], laidTests := true, laidLooks := .later }
def PathBackUptoCardSaid : Prop := Claim7.holds Tryz.pinned (.plain (OpenSpec.upto pathBackSpec)) pathBackUptoCard

/-- THE SECOND FORM's CARD OF 'postriderlaw06.PathKnown'. -/
def pathKnownUptoCard : Claim7 := { stood := { row := pathKnownUptoRow, standIns := [], harness := (true, "dfbaf619084a37e5ddf55e09f36de56a754ffb01922194f7b93c4ecd59bb3254"), looks := false }, kinds := [], alts := [], laidByText := true, laidKinds := [.data, .data, .data, .data, .data, .funcs, .pinned], laidTests := true, laidLooks := .later }
def PathKnownUptoCardSaid : Prop := Claim7.holds Tryz.pinned (.plain (OpenSpec.upto pathKnownSpec)) pathKnownUptoCard

/-- THE SECOND FORM's CARD OF 'postriderlaw06.PathRoutes'. -/
def pathRoutesUptoCard : Claim7 := { stood := { row := pathRoutesUptoRow, standIns := [], harness := (true, "dfbaf619084a37e5ddf55e09f36de56a754ffb01922194f7b93c4ecd59bb3254"), looks := false }, kinds := [], alts := [], laidByText := true, laidKinds := [.data, .data, .data, .data, .data, .funcs, .pinned], laidTests := true, laidLooks := .later }
def PathRoutesUptoCardSaid : Prop := Claim7.holds Tryz.pinned (.plain (OpenSpec.upto pathRoutesSpec)) pathRoutesUptoCard

/-- THE SECOND FORM's CARD OF 'postriderlaw06.PathParams'. -/
def pathParamsUptoCard : Claim7 := { stood := { row := pathParamsUptoRow, standIns := [], harness := (true, "dfbaf619084a37e5ddf55e09f36de56a754ffb01922194f7b93c4ecd59bb3254"), looks := false }, kinds := [], alts := [], laidByText := true, laidKinds := [.data, .data, .data, .data, .data, .funcs, .pinned, .pinned], laidTests := true, laidLooks := .later }
def PathParamsUptoCardSaid : Prop := Claim7.holds Tryz.pinned (.plain (OpenSpec.upto pathParamsSpec)) pathParamsUptoCard
end Rows
end Go.Proofs.YtgelfnjicglmbaaGreatDoor
