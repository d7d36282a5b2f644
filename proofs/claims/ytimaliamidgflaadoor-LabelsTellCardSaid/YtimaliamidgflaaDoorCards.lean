/-
  DERIVED. GIVEN WITH THE SEED: THE CARDS: each row of YtimaliamidgflaaDoorRows.lean that lists a variable, with what it lists TIED to the program's text (the seventh form; the later family's looks); each row that meets fmt, with fmt's text TOLD by the authors' own Lean function (tested against real Go, not proved from fmt's source: count such statements apart). THE CARD IS WHAT COUNTS. Prove the row's statement (the work); the ties are given (YtimaliamidgflaaDoorTie.lean); close each card by the builder's one call (the guide's Derived/Test/ToyasCard.lean, 'card_holds'). Laid BY PROGRAM, IN A SANDBOX (cutbox-door.mjs). By AI agents, Wed Nov 11 2026. No macro, syntax, notation, axiom, sorry.
-/
import Derived.Test.YtimaliamidgflaaDoorRows
import GoSem.ClaimSeven
namespace Go.Proofs.YtimaliamidgflaaDoor
namespace Rows

/-- THE TIED CARD OF 'stockadelaw20.LabelsTell'. -/
def labelsTellCard : Claim7 := { stood := { row := labelsTellRow, standIns := [], harness := (true, "45fc6a404d087db0d0e32ccf0225027f2a8ed70e21e5151e4bb6299a6b6def96"), looks := true }, kinds := [], alts := [], laidByText := true, laidKinds := [.data, .pinned], laidTests := true, laidLooks := .later }
def LabelsTellCardSaid : Prop := Claim7.holds Tryd.pinned (.plain (OpenSpec.ofChange labelsTellSpec)) labelsTellCard

/-- THE TIED CARD OF 'stockadelaw20.LabelsEach'. -/
def labelsEachCard : Claim7 := { stood := { row := labelsEachRow, standIns := [], harness := (true, "45fc6a404d087db0d0e32ccf0225027f2a8ed70e21e5151e4bb6299a6b6def96"), looks := true }, kinds := [], alts := [], laidByText := true, laidKinds := [.data, .pinned], laidTests := true, laidLooks := .later }
def LabelsEachCardSaid : Prop := Claim7.holds Tryd.pinned (.plain (OpenSpec.ofChange labelsEachSpec)) labelsEachCard

/-- THE TIED CARD OF 'stockadelaw20.LabelsLongest'. -/
def labelsLongestCard : Claim7 := { stood := { row := labelsLongestRow, standIns := [], harness := (true, "45fc6a404d087db0d0e32ccf0225027f2a8ed70e21e5151e4bb6299a6b6def96"), looks := true }, kinds := [], alts := [], laidByText := true, laidKinds := [.data, .pinned], laidTests := true, laidLooks := .later }
def LabelsLongestCardSaid : Prop := Claim7.holds Tryd.pinned (.plain (OpenSpec.ofChange labelsLongestSpec)) labelsLongestCard

/-- THE TIED CARD OF 'stockadelaw20.LabelsWild'. -/
def labelsWildCard : Claim7 := { stood := { row := labelsWildRow, standIns := [], harness := (true, "45fc6a404d087db0d0e32ccf0225027f2a8ed70e21e5151e4bb6299a6b6def96"), looks := true }, kinds := [], alts := [], laidByText := true, laidKinds := [.data, .pinned], laidTests := true, laidLooks := .later }
def LabelsWildCardSaid : Prop := Claim7.holds Tryd.pinned (.plain (OpenSpec.ofChange labelsWildSpec)) labelsWildCard

/-- THE TIED CARD OF 'stockadelaw12.NamePointers'. -/
def namePointersCard : Claim7 := { stood := { row := namePointersRow, standIns := [], harness := (true, "45fc6a404d087db0d0e32ccf0225027f2a8ed70e21e5151e4bb6299a6b6def96"), looks := true }, kinds := [], alts := [], laidByText := true, laidKinds := [.data, .handle, .pinned], laidTests := true, laidLooks := .later }
def NamePointersCardSaid : Prop := Claim7.holds Tryd.pinned (.plain (OpenSpec.ofChange namePointersSpec)) namePointersCard

/-- THE TIED CARD OF 'stockadelaw12.NameUnder'. -/
def nameUnderCard : Claim7 := { stood := { row := nameUnderRow, standIns := [], harness := (true, "45fc6a404d087db0d0e32ccf0225027f2a8ed70e21e5151e4bb6299a6b6def96"), looks := true }, kinds := [], alts := [], laidByText := true, laidKinds := [.data, .handle, .pinned], laidTests := true, laidLooks := .later }
def NameUnderCardSaid : Prop := Claim7.holds Tryd.pinned (.plain (OpenSpec.ofChange nameUnderSpec)) nameUnderCard

/-- THE TIED CARD OF 'stockadelaw12.NameBytes'. -/
def nameBytesCard : Claim7 := { stood := { row := nameBytesRow, standIns := [], harness := (true, "45fc6a404d087db0d0e32ccf0225027f2a8ed70e21e5151e4bb6299a6b6def96"), looks := true }, kinds := [], alts := [], laidByText := true, laidKinds := [.data, .handle, .pinned], laidTests := true, laidLooks := .later }
def NameBytesCardSaid : Prop := Claim7.holds Tryd.pinned (.plain (OpenSpec.ofChange nameBytesSpec)) nameBytesCard

/-- THE TIED CARD OF 'stockadelaw12.NameBack'. -/
def nameBackCard : Claim7 := { stood := { row := nameBackRow, standIns := [], harness := (true, "45fc6a404d087db0d0e32ccf0225027f2a8ed70e21e5151e4bb6299a6b6def96"), looks := true }, kinds := [], alts := [], laidByText := true, laidKinds := [.data, .handle, .pinned], laidTests := true, laidLooks := .later }
def NameBackCardSaid : Prop := Claim7.holds Tryd.pinned (.plain (OpenSpec.ofChange nameBackSpec)) nameBackCard

/-- THE TIED CARD OF 'stockadelaw12.NameLong'. -/
def nameLongCard : Claim7 := { stood := { row := nameLongRow, standIns := [], harness := (true, "45fc6a404d087db0d0e32ccf0225027f2a8ed70e21e5151e4bb6299a6b6def96"), looks := true }, kinds := [], alts := [], laidByText := true, laidKinds := [.data, .handle, .pinned], laidTests := true, laidLooks := .later }
def NameLongCardSaid : Prop := Claim7.holds Tryd.pinned (.plain (OpenSpec.ofChange nameLongSpec)) nameLongCard

/-- THE TIED CARD OF 'stockadelaw12.NameShort'. -/
def nameShortCard : Claim7 := { stood := { row := nameShortRow, standIns := [], harness := (true, "45fc6a404d087db0d0e32ccf0225027f2a8ed70e21e5151e4bb6299a6b6def96"), looks := true }, kinds := [], alts := [], laidByText := true, laidKinds := [.data, .handle, .pinned], laidTests := true, laidLooks := .later }
def NameShortCardSaid : Prop := Claim7.holds Tryd.pinned (.plain (OpenSpec.ofChange nameShortSpec)) nameShortCard

/-- THE TIED CARD OF 'stockadelaw12.NameLabels'. -/
def nameLabelsCard : Claim7 := { stood := { row := nameLabelsRow, standIns := [], harness := (true, "45fc6a404d087db0d0e32ccf0225027f2a8ed70e21e5151e4bb6299a6b6def96"), looks := true }, kinds := [], alts := [], laidByText := true, laidKinds := [.data, .handle, .pinned], laidTests := true, laidLooks := .later }
def NameLabelsCardSaid : Prop := Claim7.holds Tryd.pinned (.plain (OpenSpec.ofChange nameLabelsSpec)) nameLabelsCard

/-- THE SECOND FORM's CARD OF 'stockadelaw20.LabelsTell'. -/
def labelsTellUptoCard : Claim7 := { stood := { row := labelsTellUptoRow, standIns := [], harness := (true, "45fc6a404d087db0d0e32ccf0225027f2a8ed70e21e5151e4bb6299a6b6def96"), looks := true }, kinds := [], alts := [], laidByText := true, laidKinds := [.data, .pinned], laidTests := true, laidLooks := .later }
def LabelsTellUptoCardSaid : Prop := Claim7.holds Tryd.pinned (.plain (OpenSpec.upto labelsTellSpec)) labelsTellUptoCard

/-- THE SECOND FORM's CARD OF 'stockadelaw20.LabelsEach'. -/
def labelsEachUptoCard : Claim7 := { stood := { row := labelsEachUptoRow, standIns := [], harness := (true, "45fc6a404d087db0d0e32ccf0225027f2a8ed70e21e5151e4bb6299a6b6def96"), looks := true }, kinds := [], alts := [], laidByText := true, laidKinds := [.data, .pinned], laidTests := true, laidLooks := .later }
def LabelsEachUptoCardSaid : Prop := Claim7.holds Tryd.pinned (.plain (OpenSpec.upto labelsEachSpec)) labelsEachUptoCard

/-- THE SECOND FORM's CARD OF 'stockadelaw20.LabelsLongest'. -/
def labelsLongestUptoCard : Claim7 := { stood := { row := labelsLongestUptoRow, standIns := [], harness := (true, "45fc6a404d087db0d0e32ccf0225027f2a8ed70e21e5151e4bb6299a6b6def96"), looks := true }, kinds := [], alts := [], laidByText := true, laidKinds := [.data, .pinned], laidTests := true, laidLooks := .later }
def LabelsLongestUptoCardSaid : Prop := Claim7.holds Tryd.pinned (.plain (OpenSpec.upto labelsLongestSpec)) labelsLongestUptoCard

/-- THE SECOND FORM's CARD OF 'stockadelaw20.LabelsWild'. -/
def labelsWildUptoCard : Claim7 := { stood := { row := labelsWildUptoRow, standIns := [], harness := (true, "45fc6a404d087db0d0e32ccf0225027f2a8ed70e21e5151e4bb6299a6b6def96"), looks := true }, kinds := [], alts := [], laidByText := true, laidKinds := [.data, .pinned], laidTests := true, laidLooks := .later }
def LabelsWildUptoCardSaid : Prop := Claim7.holds Tryd.pinned (.plain (OpenSpec.upto labelsWildSpec)) labelsWildUptoCard

/-- THE SECOND FORM's CARD OF 'stockadelaw12.NamePointers'. -/
def namePointersUptoCard : Claim7 := { stood := { row := namePointersUptoRow, standIns := [], harness := (true, "45fc6a404d087db0d0e32ccf0225027f2a8ed70e21e5151e4bb6299a6b6def96"), looks := true }, kinds := [], alts := [], laidByText := true, laidKinds := [.data, .handle, .pinned], laidTests := true, laidLooks := .later }
def NamePointersUptoCardSaid : Prop := Claim7.holds Tryd.pinned (.plain (OpenSpec.upto namePointersSpec)) namePointersUptoCard

/-- THE SECOND FORM's CARD OF 'stockadelaw12.NameUnder'. -/
def nameUnderUptoCard : Claim7 := { stood := { row := nameUnderUptoRow, standIns := [], harness := (true, "45fc6a404d087db0d0e32ccf0225027f2a8ed70e21e5151e4bb6299a6b6def96"), looks := true }, kinds := [], alts := [], laidByText := true, laidKinds := [.data, .handle, .pinned], laidTests := true, laidLooks := .later }
def NameUnderUptoCardSaid : Prop := Claim7.holds Tryd.pinned (.plain (OpenSpec.upto nameUnderSpec)) nameUnderUptoCard

/-- THE SECOND FORM's CARD OF 'stockadelaw12.NameBytes'. -/
def nameBytesUptoCard : Claim7 := { stood := { row := nameBytesUptoRow, standIns := [], harness := (true, "45fc6a404d087db0d0e32ccf0225027f2a8ed70e21e5151e4bb6299a6b6def96"), looks := true }, kinds := [], alts := [], laidByText := true, laidKinds := [.data, .handle, .pinned], laidTests := true, laidLooks := .later }
def NameBytesUptoCardSaid : Prop := Claim7.holds Tryd.pinned (.plain (OpenSpec.upto nameBytesSpec)) nameBytesUptoCard

/-- THE SECOND FORM's CARD OF 'stockadelaw12.NameBack'. -/
def nameBackUptoCard : Claim7 := { stood := { row := nameBackUptoRow, standIns := [], harness := (true, "45fc6a404d087db0d0e32ccf0225027f2a8ed70e21e5151e4bb6299a6b6def96"), looks := true }, kinds := [], alts := [], laidByText := true, laidKinds := [.data, .handle, .pinned], laidTests := true, laidLooks := .later }
def NameBackUptoCardSaid : Prop := Claim7.holds Tryd.pinned (.plain (OpenSpec.upto nameBackSpec)) nameBackUptoCard

/-- THE SECOND FORM's CARD OF 'stockadelaw12.NameLong'. -/
def nameLongUptoCard : Claim7 := { stood := { row := nameLongUptoRow, standIns := [], harness := (true, "45fc6a404d087db0d0e32ccf0225027f2a8ed70e21e5151e4bb6299a6b6def96"), looks := true }, kinds := [], alts := [], laidByText := true, laidKinds := [.data, .handle, .pinned], laidTests := true, laidLooks := .later }
def NameLongUptoCardSaid : Prop := Claim7.holds Tryd.pinned (.plain (OpenSpec.upto nameLongSpec)) nameLongUptoCard

/-- THE SECOND FORM's CARD OF 'stockadelaw12.NameShort'. -/
def nameShortUptoCard : Claim7 := { stood := { row := nameShortUptoRow, standIns := [], harness := (true, "45fc6a404d087db0d0e32ccf0225027f2a8ed70e21e5151e4bb6299a6b6def96"), looks := true }, kinds := [], alts := [], laidByText := true, laidKinds := [.data, .handle, .pinned], laidTests := true, laidLooks := .later }
def NameShortUptoCardSaid : Prop := Claim7.holds Tryd.pinned (.plain (OpenSpec.upto nameShortSpec)) nameShortUptoCard

/-- THE SECOND FORM's CARD OF 'stockadelaw12.NameLabels'. -/
def nameLabelsUptoCard : Claim7 := { stood := { row := nameLabelsUptoRow, standIns := [], harness := (true, "45fc6a404d087db0d0e32ccf0225027f2a8ed70e21e5151e4bb6299a6b6def96"), looks := true }, kinds := [], alts := [], laidByText := true, laidKinds := [.data, .handle, .pinned], laidTests := true, laidLooks := .later }
def NameLabelsUptoCardSaid : Prop := Claim7.holds Tryd.pinned (.plain (OpenSpec.upto nameLabelsSpec)) nameLabelsUptoCard
end Rows
end Go.Proofs.YtimaliamidgflaaDoor
