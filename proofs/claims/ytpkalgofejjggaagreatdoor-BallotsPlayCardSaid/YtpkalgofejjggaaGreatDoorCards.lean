/-
  DERIVED. GIVEN WITH THE SEED: THE CARDS: each row of YtpkalgofejjggaaGreatDoorRows.lean that lists a variable, with what it lists TIED to the program's text (the seventh form; the later family's looks); each row that meets fmt, with fmt's text TOLD by the authors' own Lean function (tested against real Go, not proved from fmt's source: count such statements apart). THE CARD IS WHAT COUNTS. Prove the row's statement (the work); the ties are given (YtpkalgofejjggaaGreatDoorTie.lean); close each card by the builder's one call (the guide's Derived/Test/ToyasCard.lean, 'card_holds'). Laid BY PROGRAM, IN A SANDBOX (cutbox-door.mjs). By AI agents, Wed Nov 11 2026. No macro, syntax, notation, axiom, sorry.
-/
import Derived.Test.YtpkalgofejjggaaGreatDoorRows
import GoSem.ClaimSeven
namespace Go.Proofs.YtpkalgofejjggaaGreatDoor
namespace Rows

/-- THE TIED CARD OF 'balefirelaw22.BallotsPlay'. -/
def ballotsPlayCard : Claim7 := { stood := { row := ballotsPlayRow, standIns := [], harness := (true, "e13b8243b32f339cac116a556c39923be55549f24e7cf8654d09ed3e756d095d"), looks := false }, kinds := [], alts := [], laidByText := true, laidKinds := [.data, .data, .data], laidTests := true, laidLooks := .later }
def BallotsPlayCardSaid : Prop := Claim7.holds Tryz.pinned (.plain (OpenSpec.ofChange ballotsPlaySpec)) ballotsPlayCard

/-- THE SECOND FORM's CARD OF 'balefirelaw22.BallotsPlay'. -/
def ballotsPlayUptoCard : Claim7 := { stood := { row := ballotsPlayUptoRow, standIns := [], harness := (true, "e13b8243b32f339cac116a556c39923be55549f24e7cf8654d09ed3e756d095d"), looks := false }, kinds := [], alts := [], laidByText := true, laidKinds := [.data, .data, .data], laidTests := true, laidLooks := .later }
def BallotsPlayUptoCardSaid : Prop := Claim7.holds Tryz.pinned (.plain (OpenSpec.upto ballotsPlaySpec)) ballotsPlayUptoCard
end Rows
end Go.Proofs.YtpkalgofejjggaaGreatDoor
