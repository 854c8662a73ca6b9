/-
  DERIVED. GIVEN WITH THE SEED: THE CARDS: each row of YtidhlbhfhfonoaaGreatDoorRows.lean that lists a variable, with what it lists TIED to the program's text (the seventh form; the later family's looks); each row that meets fmt, with fmt's text TOLD by the authors' own Lean function (tested against real Go, not proved from fmt's source: count such statements apart). THE CARD IS WHAT COUNTS. Prove the row's statement (the work); the ties are given (YtidhlbhfhfonoaaGreatDoorTie.lean); close each card by the builder's one call (the guide's Derived/Test/ToyasCard.lean, 'card_holds'). Laid BY PROGRAM, IN A SANDBOX (cutbox-door.mjs). By AI agents, Wed Nov 11 2026. No macro, syntax, notation, axiom, sorry.
-/
import Derived.Test.YtidhlbhfhfonoaaGreatDoorRows
import GoSem.ClaimSeven
namespace Go.Proofs.YtidhlbhfhfonoaaGreatDoor
namespace Rows

/-- THE TIED CARD OF 'balefirelaw18.JournalsDone'. -/
def journalsDoneCard : Claim7 := { stood := { row := journalsDoneRow, standIns := [], harness := (true, "b20c65c3419069dd78d6a05b225a6d7c7cbedba0bb90991c8951bb6e93f30b10"), looks := false }, kinds := [], alts := [], laidByText := true, laidKinds := [.data, .data, .data, .data, .pinned], laidTests := true, laidLooks := .later }
def JournalsDoneCardSaid : Prop := Claim7.holds Tryz.pinned (.plain (OpenSpec.ofChange journalsDoneSpec)) journalsDoneCard

/-- THE TIED CARD OF 'balefirelaw17.FilesDone'. -/
def filesDoneCard : Claim7 := { stood := { row := filesDoneRow, standIns := [], harness := (true, "b20c65c3419069dd78d6a05b225a6d7c7cbedba0bb90991c8951bb6e93f30b10"), looks := false }, kinds := [], alts := [], laidByText := true, laidKinds := [.data, .data, .data, .data, .pinned], laidTests := true, laidLooks := .later }
def FilesDoneCardSaid : Prop := Claim7.holds Tryz.pinned (.plain (OpenSpec.ofChange filesDoneSpec)) filesDoneCard

/-- THE SECOND FORM's CARD OF 'balefirelaw18.JournalsDone'. -/
def journalsDoneUptoCard : Claim7 := { stood := { row := journalsDoneUptoRow, standIns := [], harness := (true, "b20c65c3419069dd78d6a05b225a6d7c7cbedba0bb90991c8951bb6e93f30b10"), looks := false }, kinds := [], alts := [], laidByText := true, laidKinds := [.data, .data, .data, .data, .pinned], laidTests := true, laidLooks := .later }
def JournalsDoneUptoCardSaid : Prop := Claim7.holds Tryz.pinned (.plain (OpenSpec.upto journalsDoneSpec)) journalsDoneUptoCard

/-- THE SECOND FORM's CARD OF 'balefirelaw17.FilesDone'. -/
def filesDoneUptoCard : Claim7 := { stood := { row := filesDoneUptoRow, standIns := [], harness := (true, "b20c65c3419069dd78d6a05b225a6d7c7cbedba0bb90991c8951bb6e93f30b10"), looks := false }, kinds := [], alts := [], laidByText := true, laidKinds := [.data, .data, .data, .data, .pinned], laidTests := true, laidLooks := .later }
def FilesDoneUptoCardSaid : Prop := Claim7.holds Tryz.pinned (.plain (OpenSpec.upto filesDoneSpec)) filesDoneUptoCard
end Rows
end Go.Proofs.YtidhlbhfhfonoaaGreatDoor
