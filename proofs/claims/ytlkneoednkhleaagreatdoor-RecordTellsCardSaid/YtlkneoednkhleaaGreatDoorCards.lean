/-
  DERIVED. GIVEN WITH THE SEED: THE CARDS: each row of YtlkneoednkhleaaGreatDoorRows.lean that lists a variable, with what it lists TIED to the program's text (the seventh form; the later family's looks); each row that meets fmt, with fmt's text TOLD by the authors' own Lean function (tested against real Go, not proved from fmt's source: count such statements apart). THE CARD IS WHAT COUNTS. Prove the row's statement (the work); the ties are given (YtlkneoednkhleaaGreatDoorTie.lean); close each card by the builder's one call (the guide's Derived/Test/ToyasCard.lean, 'card_holds'). Laid BY PROGRAM, IN A SANDBOX (cutbox-door.mjs). By AI agents, Wed Nov 11 2026. No macro, syntax, notation, axiom, sorry.
-/
import Derived.Test.YtlkneoednkhleaaGreatDoorRows
import GoSem.ClaimSeven
namespace Go.Proofs.YtlkneoednkhleaaGreatDoor
namespace Rows

/-- THE TIED CARD OF 'stockadelaw13.RecordTells'. -/
def recordTellsCard : Claim7 := { stood := { row := recordTellsRow, standIns := [], harness := (true, "22fde79e47330ac4edd171a83fc93ffae9dfc736f17c0f168d1972b8fe54139c"), looks := true }, kinds := [], alts := [], laidByText := true, laidKinds := [.data, .handle, .pinned], laidTests := true, laidLooks := .later }
def RecordTellsCardSaid : Prop := Claim7.holds Tryz.pinned (.plain (OpenSpec.ofChange recordTellsSpec)) recordTellsCard

/-- THE TIED CARD OF 'stockadelaw14.DnsmsgTells'. -/
def dnsmsgTellsCard : Claim7 := { stood := { row := dnsmsgTellsRow, standIns := [], harness := (true, "22fde79e47330ac4edd171a83fc93ffae9dfc736f17c0f168d1972b8fe54139c"), looks := true }, kinds := [], alts := [], laidByText := true, laidKinds := [.data, .handle, .pinned], laidTests := true, laidLooks := .later }
def DnsmsgTellsCardSaid : Prop := Claim7.holds Tryz.pinned (.plain (OpenSpec.ofChange dnsmsgTellsSpec)) dnsmsgTellsCard

/-- THE TIED CARD OF 'stockadelaw14.DnsmsgBack'. -/
def dnsmsgBackCard : Claim7 := { stood := { row := dnsmsgBackRow, standIns := [], harness := (true, "22fde79e47330ac4edd171a83fc93ffae9dfc736f17c0f168d1972b8fe54139c"), looks := true }, kinds := [], alts := [], laidByText := true, laidKinds := [.data, .handle, .pinned], laidTests := true, laidLooks := .later }
def DnsmsgBackCardSaid : Prop := Claim7.holds Tryz.pinned (.plain (OpenSpec.ofChange dnsmsgBackSpec)) dnsmsgBackCard

/-- THE TIED CARD OF 'stockadelaw14.DnsmsgEnds'. -/
def dnsmsgEndsCard : Claim7 := { stood := { row := dnsmsgEndsRow, standIns := [], harness := (true, "22fde79e47330ac4edd171a83fc93ffae9dfc736f17c0f168d1972b8fe54139c"), looks := true }, kinds := [], alts := [], laidByText := true, laidKinds := [.data, .handle, .pinned], laidTests := true, laidLooks := .later }
def DnsmsgEndsCardSaid : Prop := Claim7.holds Tryz.pinned (.plain (OpenSpec.ofChange dnsmsgEndsSpec)) dnsmsgEndsCard

/-- THE TIED CARD OF 'stockadelaw14.DnsmsgCompressed'. -/
def dnsmsgCompressedCard : Claim7 := { stood := { row := dnsmsgCompressedRow, standIns := [], harness := (true, "22fde79e47330ac4edd171a83fc93ffae9dfc736f17c0f168d1972b8fe54139c"), looks := true }, kinds := [], alts := [], laidByText := true, laidKinds := [.data, .handle, .pinned], laidTests := true, laidLooks := .later }
def DnsmsgCompressedCardSaid : Prop := Claim7.holds Tryz.pinned (.plain (OpenSpec.ofChange dnsmsgCompressedSpec)) dnsmsgCompressedCard

/-- THE TIED CARD OF 'stockadelaw14.DnsmsgRefuses'. -/
def dnsmsgRefusesCard : Claim7 := { stood := { row := dnsmsgRefusesRow, standIns := [], harness := (true, "22fde79e47330ac4edd171a83fc93ffae9dfc736f17c0f168d1972b8fe54139c"), looks := true }, kinds := [], alts := [], laidByText := true, laidKinds := [.data, .handle, .pinned], laidTests := true, laidLooks := .later }
def DnsmsgRefusesCardSaid : Prop := Claim7.holds Tryz.pinned (.plain (OpenSpec.ofChange dnsmsgRefusesSpec)) dnsmsgRefusesCard

/-- THE TIED CARD OF 'stockadelaw14.DnsmsgHeads'. -/
def dnsmsgHeadsCard : Claim7 := { stood := { row := dnsmsgHeadsRow, standIns := [], harness := (true, "22fde79e47330ac4edd171a83fc93ffae9dfc736f17c0f168d1972b8fe54139c"), looks := true }, kinds := [], alts := [], laidByText := true, laidKinds := [.data, .handle, .pinned], laidTests := true, laidLooks := .later }
def DnsmsgHeadsCardSaid : Prop := Claim7.holds Tryz.pinned (.plain (OpenSpec.ofChange dnsmsgHeadsSpec)) dnsmsgHeadsCard

/-- THE SECOND FORM's CARD OF 'stockadelaw13.RecordTells'. -/
def recordTellsUptoCard : Claim7 := { stood := { row := recordTellsUptoRow, standIns := [], harness := (true, "22fde79e47330ac4edd171a83fc93ffae9dfc736f17c0f168d1972b8fe54139c"), looks := true }, kinds := [], alts := [], laidByText := true, laidKinds := [.data, .handle, .pinned], laidTests := true, laidLooks := .later }
def RecordTellsUptoCardSaid : Prop := Claim7.holds Tryz.pinned (.plain (OpenSpec.upto recordTellsSpec)) recordTellsUptoCard

/-- THE SECOND FORM's CARD OF 'stockadelaw14.DnsmsgTells'. -/
def dnsmsgTellsUptoCard : Claim7 := { stood := { row := dnsmsgTellsUptoRow, standIns := [], harness := (true, "22fde79e47330ac4edd171a83fc93ffae9dfc736f17c0f168d1972b8fe54139c"), looks := true }, kinds := [], alts := [], laidByText := true, laidKinds := [.data, .handle, .pinned], laidTests := true, laidLooks := .later }
def DnsmsgTellsUptoCardSaid : Prop := Claim7.holds Tryz.pinned (.plain (OpenSpec.upto dnsmsgTellsSpec)) dnsmsgTellsUptoCard

/-- THE SECOND FORM's CARD OF 'stockadelaw14.DnsmsgBack'. -/
def dnsmsgBackUptoCard : Claim7 := { stood := { row := dnsmsgBackUptoRow, standIns := [], harness := (true, "22fde79e47330ac4edd171a83fc93ffae9dfc736f17c0f168d1972b8fe54139c"), looks := true }, kinds := [], alts := [], laidByText := true, laidKinds := [.data, .handle, .pinned], laidTests := true, laidLooks := .later }
def DnsmsgBackUptoCardSaid : Prop := Claim7.holds Tryz.pinned (.plain (OpenSpec.upto dnsmsgBackSpec)) dnsmsgBackUptoCard

/-- THE SECOND FORM's CARD OF 'stockadelaw14.DnsmsgEnds'. -/
def dnsmsgEndsUptoCard : Claim7 := { stood := { row := dnsmsgEndsUptoRow, standIns := [], harness := (true, "22fde79e47330ac4edd171a83fc93ffae9dfc736f17c0f168d1972b8fe54139c"), looks := true }, kinds := [], alts := [], laidByText := true, laidKinds := [.data, .handle, .pinned], laidTests := true, laidLooks := .later }
def DnsmsgEndsUptoCardSaid : Prop := Claim7.holds Tryz.pinned (.plain (OpenSpec.upto dnsmsgEndsSpec)) dnsmsgEndsUptoCard

/-- THE SECOND FORM's CARD OF 'stockadelaw14.DnsmsgCompressed'. -/
def dnsmsgCompressedUptoCard : Claim7 := { stood := { row := dnsmsgCompressedUptoRow, standIns := [], harness := (true, "22fde79e47330ac4edd171a83fc93ffae9dfc736f17c0f168d1972b8fe54139c"), looks := true }, kinds := [], alts := [], laidByText := true, laidKinds := [.data, .handle, .pinned], laidTests := true, laidLooks := .later }
def DnsmsgCompressedUptoCardSaid : Prop := Claim7.holds Tryz.pinned (.plain (OpenSpec.upto dnsmsgCompressedSpec)) dnsmsgCompressedUptoCard

/-- THE SECOND FORM's CARD OF 'stockadelaw14.DnsmsgRefuses'. -/
def dnsmsgRefusesUptoCard : Claim7 := { stood := { row := dnsmsgRefusesUptoRow, standIns := [], harness := (true, "22fde79e47330ac4edd171a83fc93ffae9dfc736f17c0f168d1972b8fe54139c"), looks := true }, kinds := [], alts := [], laidByText := true, laidKinds := [.data, .handle, .pinned], laidTests := true, laidLooks := .later }
def DnsmsgRefusesUptoCardSaid : Prop := Claim7.holds Tryz.pinned (.plain (OpenSpec.upto dnsmsgRefusesSpec)) dnsmsgRefusesUptoCard

/-- THE SECOND FORM's CARD OF 'stockadelaw14.DnsmsgHeads'. -/
def dnsmsgHeadsUptoCard : Claim7 := { stood := { row := dnsmsgHeadsUptoRow, standIns := [], harness := (true, "22fde79e47330ac4edd171a83fc93ffae9dfc736f17c0f168d1972b8fe54139c"), looks := true }, kinds := [], alts := [], laidByText := true, laidKinds := [.data, .handle, .pinned], laidTests := true, laidLooks := .later }
def DnsmsgHeadsUptoCardSaid : Prop := Claim7.holds Tryz.pinned (.plain (OpenSpec.upto dnsmsgHeadsSpec)) dnsmsgHeadsUptoCard
end Rows
end Go.Proofs.YtlkneoednkhleaaGreatDoor
