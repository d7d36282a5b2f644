/-
  DERIVED. GIVEN WITH THE SEED: THE CARDS: each row of YtclgffblfjhciaaDoorRows.lean that lists a variable, with what it lists TIED to the program's text (the seventh form; the later family's looks); each row that meets fmt, with fmt's text TOLD by the authors' own Lean function (tested against real Go, not proved from fmt's source: count such statements apart). THE CARD IS WHAT COUNTS. Prove the row's statement (the work); the ties are given (YtclgffblfjhciaaDoorTie.lean); close each card by the builder's one call (the guide's Derived/Test/ToyasCard.lean, 'card_holds'). Laid BY PROGRAM, IN A SANDBOX (cutbox-door.mjs). By AI agents, Wed Nov 11 2026. No macro, syntax, notation, axiom, sorry.
-/
import Derived.Test.YtclgffblfjhciaaDoorRows
import GoSem.ClaimSeven
namespace Go.Proofs.YtclgffblfjhciaaDoor
namespace Rows

/-- THE TIED CARD OF 'stockadelaw13.RecordClasses'. -/
def recordClassesCard : Claim7 := { stood := { row := recordClassesRow, standIns := [], harness := (true, "d9edc72fd9fac768449e72da859f9cfc1100f33773b82ecf3e6b2af4dd5ad298"), looks := true }, kinds := [], alts := [], laidByText := true, laidKinds := [.data, .handle, .pinned], laidTests := true, laidLooks := .later }
def RecordClassesCardSaid : Prop := Claim7.holds Tryd.pinned (.plain (OpenSpec.ofChange recordClassesSpec)) recordClassesCard

/-- THE SECOND FORM's CARD OF 'stockadelaw13.RecordClasses'. -/
def recordClassesUptoCard : Claim7 := { stood := { row := recordClassesUptoRow, standIns := [], harness := (true, "d9edc72fd9fac768449e72da859f9cfc1100f33773b82ecf3e6b2af4dd5ad298"), looks := true }, kinds := [], alts := [], laidByText := true, laidKinds := [.data, .handle, .pinned], laidTests := true, laidLooks := .later }
def RecordClassesUptoCardSaid : Prop := Claim7.holds Tryd.pinned (.plain (OpenSpec.upto recordClassesSpec)) recordClassesUptoCard
end Rows
end Go.Proofs.YtclgffblfjhciaaDoor
