/-
  DERIVED. GIVEN WITH THE SEED: THE CARDS: each row of YtplhfbflgjnjmaaGreatDoorRows.lean that lists a variable, with what it lists TIED to the program's text (the seventh form; the later family's looks); each row that meets fmt, with fmt's text TOLD by the authors' own Lean function (tested against real Go, not proved from fmt's source: count such statements apart). THE CARD IS WHAT COUNTS. Prove the row's statement (the work); the ties are given (YtplhfbflgjnjmaaGreatDoorTie.lean); close each card by the builder's one call (the guide's Derived/Test/ToyasCard.lean, 'card_holds'). Laid BY PROGRAM, IN A SANDBOX (cutbox-door.mjs). By AI agents, Wed Nov 11 2026. No macro, syntax, notation, axiom, sorry.
-/
import Derived.Test.YtplhfbflgjnjmaaGreatDoorRows
import GoSem.ClaimSeven
namespace Go.Proofs.YtplhfbflgjnjmaaGreatDoor
namespace Rows

/-- THE TIED CARD OF 'balefirelaw01.NumsGet'. -/
def numsGetCard : Claim7 := { stood := { row := numsGetRow, standIns := [], harness := (true, "1d9c9871ce4b2b12b653ba7d419a10b1c3baf799d75b7e4bfdfe68a27f9abf06"), looks := false }, kinds := [], alts := [], laidByText := true, laidKinds := [.data, .data, .data], laidTests := true, laidLooks := .later }
def NumsGetCardSaid : Prop := Claim7.holds Tryz.pinned (.plain (OpenSpec.ofChange numsGetSpec)) numsGetCard

/-- THE TIED CARD OF 'balefirelaw01.NumsPut'. -/
def numsPutCard : Claim7 := { stood := { row := numsPutRow, standIns := [], harness := (true, "1d9c9871ce4b2b12b653ba7d419a10b1c3baf799d75b7e4bfdfe68a27f9abf06"), looks := false }, kinds := [], alts := [], laidByText := true, laidKinds := [.data, .data, .data], laidTests := true, laidLooks := .later }
def NumsPutCardSaid : Prop := Claim7.holds Tryz.pinned (.plain (OpenSpec.ofChange numsPutSpec)) numsPutCard

/-- THE SECOND FORM's CARD OF 'balefirelaw01.NumsGet'. -/
def numsGetUptoCard : Claim7 := { stood := { row := numsGetUptoRow, standIns := [], harness := (true, "1d9c9871ce4b2b12b653ba7d419a10b1c3baf799d75b7e4bfdfe68a27f9abf06"), looks := false }, kinds := [], alts := [], laidByText := true, laidKinds := [.data, .data, .data], laidTests := true, laidLooks := .later }
def NumsGetUptoCardSaid : Prop := Claim7.holds Tryz.pinned (.plain (OpenSpec.upto numsGetSpec)) numsGetUptoCard

/-- THE SECOND FORM's CARD OF 'balefirelaw01.NumsPut'. -/
def numsPutUptoCard : Claim7 := { stood := { row := numsPutUptoRow, standIns := [], harness := (true, "1d9c9871ce4b2b12b653ba7d419a10b1c3baf799d75b7e4bfdfe68a27f9abf06"), looks := false }, kinds := [], alts := [], laidByText := true, laidKinds := [.data, .data, .data], laidTests := true, laidLooks := .later }
def NumsPutUptoCardSaid : Prop := Claim7.holds Tryz.pinned (.plain (OpenSpec.upto numsPutSpec)) numsPutUptoCard
end Rows
end Go.Proofs.YtplhfbflgjnjmaaGreatDoor
