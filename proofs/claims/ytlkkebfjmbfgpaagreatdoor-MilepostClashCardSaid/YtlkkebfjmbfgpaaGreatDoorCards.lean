/-
  DERIVED. GIVEN WITH THE SEED: THE CARDS: each row of YtlkkebfjmbfgpaaGreatDoorRows.lean that lists a variable, with what it lists TIED to the program's text (the seventh form; the later family's looks); each row that meets fmt, with fmt's text TOLD by the authors' own Lean function (tested against real Go, not proved from fmt's source: count such statements apart). THE CARD IS WHAT COUNTS. Prove the row's statement (the work); the ties are given (YtlkkebfjmbfgpaaGreatDoorTie.lean); close each card by the builder's one call (the guide's Derived/Test/ToyasCard.lean, 'card_holds'). Laid BY PROGRAM, IN A SANDBOX (cutbox-door.mjs). By AI agents, Wed Nov 11 2026. No macro, syntax, notation, axiom, sorry.
-/
import Derived.Test.YtlkkebfjmbfgpaaGreatDoorRows
import GoSem.ClaimSeven
namespace Go.Proofs.YtlkkebfjmbfgpaaGreatDoor
namespace Rows

/-- THE TIED CARD OF 'mileposttop.MilepostClash'. -/
def milepostClashCard : Claim7 := { stood := { row := milepostClashRow, standIns := [], harness := (true, "c56f9f5d8a71ec598b77aa2ba694e2b01847806666368549383b95ebf065cb16"), looks := true }, kinds := [], alts := [], laidByText := true, laidKinds := [.data, .data, .data, .data, .handle, .pinned], laidTests := true, laidLooks := .later }
def MilepostClashCardSaid : Prop := Claim7.holds Tryz.pinned (.plain (OpenSpec.ofChange milepostClashSpec)) milepostClashCard

/-- THE SECOND FORM's CARD OF 'mileposttop.MilepostClash'. -/
def milepostClashUptoCard : Claim7 := { stood := { row := milepostClashUptoRow, standIns := [], harness := (true, "c56f9f5d8a71ec598b77aa2ba694e2b01847806666368549383b95ebf065cb16"), looks := true }, kinds := [], alts := [], laidByText := true, laidKinds := [.data, .data, .data, .data, .handle, .pinned], laidTests := true, laidLooks := .later }
def MilepostClashUptoCardSaid : Prop := Claim7.holds Tryz.pinned (.plain (OpenSpec.upto milepostClashSpec)) milepostClashUptoCard
end Rows
end Go.Proofs.YtlkkebfjmbfgpaaGreatDoor
