/-
  DERIVED. GIVEN WITH THE SEED: THE CARDS: each row of YtdciiahlakgikaaDoorRows.lean that lists a variable, with what it lists TIED to the program's text (the seventh form; the later family's looks); each row that meets fmt, with fmt's text TOLD by the authors' own Lean function (tested against real Go, not proved from fmt's source: count such statements apart). THE CARD IS WHAT COUNTS. Prove the row's statement (the work); the ties are given (YtdciiahlakgikaaDoorTie.lean); close each card by the builder's one call (the guide's Derived/Test/ToyasCard.lean, 'card_holds'). Laid BY PROGRAM, IN A SANDBOX (cutbox-door.mjs). By AI agents, Wed Nov 11 2026. No macro, syntax, notation, axiom, sorry.
-/
import Derived.Test.YtdciiahlakgikaaDoorRows
import GoSem.ClaimSeven
namespace Go.Proofs.YtdciiahlakgikaaDoor
namespace Rows

/-- THE TIED CARD OF 'postriderlaw07.HeadReads'. -/
def headReadsCard : Claim7 := { stood := { row := headReadsRow, standIns := [], harness := (true, "20953892914c65219343c7d77f799b5fa8c1c12a0915f66fe6d26ecf136ab7a8"), looks := false }, kinds := [], alts := [], laidByText := true, laidKinds := [.data, .pinned], laidTests := true, laidLooks := .later }
def HeadReadsCardSaid : Prop := Claim7.holds Tryd.pinned (.plain (OpenSpec.ofChange headReadsSpec)) headReadsCard

/-- THE TIED CARD OF 'postriderlaw07.HeadFolds'. -/
def headFoldsCard : Claim7 := { stood := { row := headFoldsRow, standIns := [], harness := (true, "20953892914c65219343c7d77f799b5fa8c1c12a0915f66fe6d26ecf136ab7a8"), looks := false }, kinds := [], alts := [], laidByText := true, laidKinds := [.data, .pinned], laidTests := true, laidLooks := .later }
def HeadFoldsCardSaid : Prop := Claim7.holds Tryd.pinned (.plain (OpenSpec.ofChange headFoldsSpec)) headFoldsCard

/-- THE TIED CARD OF 'postriderlaw07.HeadTells'. -/
def headTellsCard : Claim7 := { stood := { row := headTellsRow, standIns := [], harness := (true, "20953892914c65219343c7d77f799b5fa8c1c12a0915f66fe6d26ecf136ab7a8"), looks := false }, kinds := [], alts := [], laidByText := true, laidKinds := [.data, .pinned], laidTests := true, laidLooks := .later }
def HeadTellsCardSaid : Prop := Claim7.holds Tryd.pinned (.plain (OpenSpec.ofChange headTellsSpec)) headTellsCard

/-- THE TIED CARD OF 'postriderlaw07.HeadLays'. -/
def headLaysCard : Claim7 := { stood := { row := headLaysRow, standIns := [], harness := (true, "20953892914c65219343c7d77f799b5fa8c1c12a0915f66fe6d26ecf136ab7a8"), looks := false }, kinds := [], alts := [], laidByText := true, laidKinds := [.data, .pinned], laidTests := true, laidLooks := .later }
def HeadLaysCardSaid : Prop := Claim7.holds Tryd.pinned (.plain (OpenSpec.ofChange headLaysSpec)) headLaysCard

/-- THE TIED CARD OF 'postriderlaw07.HeadBytes'. -/
def headBytesCard : Claim7 := { stood := { row := headBytesRow, standIns := [], harness := (true, "20953892914c65219343c7d77f799b5fa8c1c12a0915f66fe6d26ecf136ab7a8"), looks := false }, kinds := [], alts := [], laidByText := true, laidKinds := [.data, .pinned], laidTests := true, laidLooks := .later }
def HeadBytesCardSaid : Prop := Claim7.holds Tryd.pinned (.plain (OpenSpec.ofChange headBytesSpec)) headBytesCard

/-- THE TIED CARD OF 'postriderlaw07.HeadKnown'. -/
def headKnownCard : Claim7 := { stood := { row := headKnownRow, standIns := [], harness := (true, "20953892914c65219343c7d77f799b5fa8c1c12a0915f66fe6d26ecf136ab7a8"), looks := false }, kinds := [], alts := [], laidByText := true, laidKinds := [.data, .pinned], laidTests := true, laidLooks := .later }
def HeadKnownCardSaid : Prop := Claim7.holds Tryd.pinned (.plain (OpenSpec.ofChange headKnownSpec)) headKnownCard

/-- THE SECOND FORM's CARD OF 'postriderlaw07.HeadReads'. -/
def headReadsUptoCard : Claim7 := { stood := { row := headReadsUptoRow, standIns := [], harness := (true, "20953892914c65219343c7d77f799b5fa8c1c12a0915f66fe6d26ecf136ab7a8"), looks := false }, kinds := [], alts := [], laidByText := true, laidKinds := [.data, .pinned], laidTests := true, laidLooks := .later }
def HeadReadsUptoCardSaid : Prop := Claim7.holds Tryd.pinned (.plain (OpenSpec.upto headReadsSpec)) headReadsUptoCard

/-- THE SECOND FORM's CARD OF 'postriderlaw07.HeadFolds'. -/
def headFoldsUptoCard : Claim7 := { stood := { row := headFoldsUptoRow, standIns := [], harness := (true, "20953892914c65219343c7d77f799b5fa8c1c12a0915f66fe6d26ecf136ab7a8"), looks := false }, kinds := [], alts := [], laidByText := true, laidKinds := [.data, .pinned], laidTests := true, laidLooks := .later }
def HeadFoldsUptoCardSaid : Prop := Claim7.holds Tryd.pinned (.plain (OpenSpec.upto headFoldsSpec)) headFoldsUptoCard

/-- THE SECOND FORM's CARD OF 'postriderlaw07.HeadTells'. -/
def headTellsUptoCard : Claim7 := { stood := { row := headTellsUptoRow, standIns := [], harness := (true, "20953892914c65219343c7d77f799b5fa8c1c12a0915f66fe6d26ecf136ab7a8"), looks := false }, kinds := [], alts := [], laidByText := true, laidKinds := [.data, .pinned], laidTests := true, laidLooks := .later }
def HeadTellsUptoCardSaid : Prop := Claim7.holds Tryd.pinned (.plain (OpenSpec.upto headTellsSpec)) headTellsUptoCard

/-- THE SECOND FORM's CARD OF 'postriderlaw07.HeadLays'. -/
def headLaysUptoCard : Claim7 := { stood := { row := headLaysUptoRow, standIns := [], harness := (true, "20953892914c65219343c7d77f799b5fa8c1c12a0915f66fe6d26ecf136ab7a8"), looks := false }, kinds := [], alts := [], laidByText := true, laidKinds := [.data, .pinned], laidTests := true, laidLooks := .later }
def HeadLaysUptoCardSaid : Prop := Claim7.holds Tryd.pinned (.plain (OpenSpec.upto headLaysSpec)) headLaysUptoCard

/-- THE SECOND FORM's CARD OF 'postriderlaw07.HeadBytes'. -/
def headBytesUptoCard : Claim7 := { stood := { row := headBytesUptoRow, standIns := [], harness := (true, "20953892914c65219343c7d77f799b5fa8c1c12a0915f66fe6d26ecf136ab7a8"), looks := false }, kinds := [], alts := [], laidByText := true, laidKinds := [.data, .pinned], laidTests := true, laidLooks := .later }
def HeadBytesUptoCardSaid : Prop := Claim7.holds Tryd.pinned (.plain (OpenSpec.upto headBytesSpec)) headBytesUptoCard

/-- THE SECOND FORM's CARD OF 'postriderlaw07.HeadKnown'. -/
def headKnownUptoCard : Claim7 := { stood := { row := headKnownUptoRow, standIns := [], harness := (true, "20953892914c65219343c7d77f799b5fa8c1c12a0915f66fe6d26ecf136ab7a8"), looks := false }, kinds := [], alts := [], laidByText := true, laidKinds := [.data, .pinned], laidTests := true, laidLooks := .later }
def HeadKnownUptoCardSaid : Prop := Claim7.holds Tryd.pinned (.plain (OpenSpec.upto headKnownSpec)) headKnownUptoCard
end Rows
end Go.Proofs.YtdciiahlakgikaaDoor
