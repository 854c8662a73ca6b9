/-
  DERIVED. GIVEN WITH THE SEED: THE CARDS: each row of YtmijablfjigbhaaGreatDoorRows.lean that lists a variable, with what it lists TIED to the program's text (the seventh form; the later family's looks); each row that meets fmt, with fmt's text TOLD by the authors' own Lean function (tested against real Go, not proved from fmt's source: count such statements apart). THE CARD IS WHAT COUNTS. Prove the row's statement (the work); the ties are given (YtmijablfjigbhaaGreatDoorTie.lean); close each card by the builder's one call (the guide's Derived/Test/ToyasCard.lean, 'card_holds'). Laid BY PROGRAM, IN A SANDBOX (cutbox-door.mjs). By AI agents, Wed Nov 11 2026. No macro, syntax, notation, axiom, sorry.
-/
import Derived.Test.YtmijablfjigbhaaGreatDoorRows
import GoSem.ClaimSeven
namespace Go.Proofs.YtmijablfjigbhaaGreatDoor
namespace Rows

/-- THE TIED CARD OF 'balefirelaw20.LinksSeal'. -/
def linksSealCard : Claim7 := { stood := { row := linksSealRow, standIns := [], harness := (true, "dfdcb4944d4b339eb2c4cf3223140fcecba10ce493f6a2a6401c96118399f019"), looks := false }, kinds := [], alts := [], laidByText := true, laidKinds := [.data, .data, .data], laidTests := true, laidLooks := .later }
def LinksSealCardSaid : Prop := Claim7.holds Tryz.pinned (.plain (OpenSpec.ofChange linksSealSpec)) linksSealCard

/-- THE SECOND FORM's CARD OF 'balefirelaw20.LinksSeal'. -/
def linksSealUptoCard : Claim7 := { stood := { row := linksSealUptoRow, standIns := [], harness := (true, "dfdcb4944d4b339eb2c4cf3223140fcecba10ce493f6a2a6401c96118399f019"), looks := false }, kinds := [], alts := [], laidByText := true, laidKinds := [.data, .data, .data], laidTests := true, laidLooks := .later }
def LinksSealUptoCardSaid : Prop := Claim7.holds Tryz.pinned (.plain (OpenSpec.upto linksSealSpec)) linksSealUptoCard
end Rows
end Go.Proofs.YtmijablfjigbhaaGreatDoor
