/-
  DERIVED. GIVEN WITH THE SEED: THE CARDS: each row of YtjfejpdeccnlnaaDoorRows.lean that lists a variable, with what it lists TIED to the program's text (the seventh form; the later family's looks); each row that meets fmt, with fmt's text TOLD by the authors' own Lean function (tested against real Go, not proved from fmt's source: count such statements apart). THE CARD IS WHAT COUNTS. Prove the row's statement (the work); the ties are given (YtjfejpdeccnlnaaDoorTie.lean); close each card by the builder's one call (the guide's Derived/Test/ToyasCard.lean, 'card_holds'). Laid BY PROGRAM, IN A SANDBOX (cutbox-door.mjs). By AI agents, Wed Nov 11 2026. No macro, syntax, notation, axiom, sorry.
-/
import Derived.Test.YtjfejpdeccnlnaaDoorRows
import GoSem.ClaimSeven
namespace Go.Proofs.YtjfejpdeccnlnaaDoor
namespace Rows

/-- THE TIED CARD OF 'balefirelaw18.JournalsRoom'. -/
def journalsRoomCard : Claim7 := { stood := { row := journalsRoomRow, standIns := [], harness := (true, "bab4ccc33fe70fc082d520b6a2564761e89414c656df98f838891e3458ae788a"), looks := false }, kinds := [], alts := [], laidByText := true, laidKinds := [.data, .pinned], laidTests := true, laidLooks := .later }
def JournalsRoomCardSaid : Prop := Claim7.holds Tryd.pinned (.plain (OpenSpec.ofChange journalsRoomSpec)) journalsRoomCard

/-- THE TIED CARD OF 'balefirelaw18.JournalsMidst'. -/
def journalsMidstCard : Claim7 := { stood := { row := journalsMidstRow, standIns := [], harness := (true, "bab4ccc33fe70fc082d520b6a2564761e89414c656df98f838891e3458ae788a"), looks := false }, kinds := [], alts := [], laidByText := true, laidKinds := [.data, .pinned], laidTests := true, laidLooks := .later }
def JournalsMidstCardSaid : Prop := Claim7.holds Tryd.pinned (.plain (OpenSpec.ofChange journalsMidstSpec)) journalsMidstCard

/-- THE TIED CARD OF 'balefirelaw18.JournalsGraft'. -/
def journalsGraftCard : Claim7 := { stood := { row := journalsGraftRow, standIns := [], harness := (true, "bab4ccc33fe70fc082d520b6a2564761e89414c656df98f838891e3458ae788a"), looks := false }, kinds := [], alts := [], laidByText := true, laidKinds := [.data, .pinned], laidTests := true, laidLooks := .later }
def JournalsGraftCardSaid : Prop := Claim7.holds Tryd.pinned (.plain (OpenSpec.ofChange journalsGraftSpec)) journalsGraftCard

/-- THE TIED CARD OF 'balefirelaw18.JournalsLeft'. -/
def journalsLeftCard : Claim7 := { stood := { row := journalsLeftRow, standIns := [], harness := (true, "bab4ccc33fe70fc082d520b6a2564761e89414c656df98f838891e3458ae788a"), looks := false }, kinds := [], alts := [], laidByText := true, laidKinds := [.data, .pinned], laidTests := true, laidLooks := .later }
def JournalsLeftCardSaid : Prop := Claim7.holds Tryd.pinned (.plain (OpenSpec.ofChange journalsLeftSpec)) journalsLeftCard

/-- THE TIED CARD OF 'balefirelaw17.FilesOrder'. -/
def filesOrderCard : Claim7 := { stood := { row := filesOrderRow, standIns := [], harness := (true, "bab4ccc33fe70fc082d520b6a2564761e89414c656df98f838891e3458ae788a"), looks := false }, kinds := [], alts := [], laidByText := true, laidKinds := [.data, .pinned], laidTests := true, laidLooks := .later }
def FilesOrderCardSaid : Prop := Claim7.holds Tryd.pinned (.plain (OpenSpec.ofChange filesOrderSpec)) filesOrderCard

/-- THE TIED CARD OF 'balefirelaw18.JournalsLook'. -/
def journalsLookCard : Claim7 := { stood := { row := journalsLookRow, standIns := [], harness := (true, "bab4ccc33fe70fc082d520b6a2564761e89414c656df98f838891e3458ae788a"), looks := false }, kinds := [], alts := [], laidByText := true, laidKinds := [.data, .pinned], laidTests := true, laidLooks := .later }
def JournalsLookCardSaid : Prop := Claim7.holds Tryd.pinned (.plain (OpenSpec.ofChange journalsLookSpec)) journalsLookCard

/-- THE SECOND FORM's CARD OF 'balefirelaw18.JournalsRoom'. -/
def journalsRoomUptoCard : Claim7 := { stood := { row := journalsRoomUptoRow, standIns := [], harness := (true, "bab4ccc33fe70fc082d520b6a2564761e89414c656df98f838891e3458ae788a"), looks := false }, kinds := [], alts := [], laidByText := true, laidKinds := [.data, .pinned], laidTests := true, laidLooks := .later }
def JournalsRoomUptoCardSaid : Prop := Claim7.holds Tryd.pinned (.plain (OpenSpec.upto journalsRoomSpec)) journalsRoomUptoCard

/-- THE SECOND FORM's CARD OF 'balefirelaw18.JournalsMidst'. -/
def journalsMidstUptoCard : Claim7 := { stood := { row := journalsMidstUptoRow, standIns := [], harness := (true, "bab4ccc33fe70fc082d520b6a2564761e89414c656df98f838891e3458ae788a"), looks := false }, kinds := [], alts := [], laidByText := true, laidKinds := [.data, .pinned], laidTests := true, laidLooks := .later }
def JournalsMidstUptoCardSaid : Prop := Claim7.holds Tryd.pinned (.plain (OpenSpec.upto journalsMidstSpec)) journalsMidstUptoCard

/-- THE SECOND FORM's CARD OF 'balefirelaw18.JournalsGraft'. -/
def journalsGraftUptoCard : Claim7 := { stood := { row := journalsGraftUptoRow, standIns := [], harness := (true, "bab4ccc33fe70fc082d520b6a2564761e89414c656df98f838891e3458ae788a"), looks := false }, kinds := [], alts := [], laidByText := true, laidKinds := [.data, .pinned], laidTests := true, laidLooks := .later }
def JournalsGraftUptoCardSaid : Prop := Claim7.holds Tryd.pinned (.plain (OpenSpec.upto journalsGraftSpec)) journalsGraftUptoCard

/-- THE SECOND FORM's CARD OF 'balefirelaw18.JournalsLeft'. -/
def journalsLeftUptoCard : Claim7 := { stood := { row := journalsLeftUptoRow, standIns := [], harness := (true, "bab4ccc33fe70fc082d520b6a2564761e89414c656df98f838891e3458ae788a"), looks := false }, kinds := [], alts := [], laidByText := true, laidKinds := [.data, .pinned], laidTests := true, laidLooks := .later }
def JournalsLeftUptoCardSaid : Prop := Claim7.holds Tryd.pinned (.plain (OpenSpec.upto journalsLeftSpec)) journalsLeftUptoCard

/-- THE SECOND FORM's CARD OF 'balefirelaw17.FilesOrder'. -/
def filesOrderUptoCard : Claim7 := { stood := { row := filesOrderUptoRow, standIns := [], harness := (true, "bab4ccc33fe70fc082d520b6a2564761e89414c656df98f838891e3458ae788a"), looks := false }, kinds := [], alts := [], laidByText := true, laidKinds := [.data, .pinned], laidTests := true, laidLooks := .later }
def FilesOrderUptoCardSaid : Prop := Claim7.holds Tryd.pinned (.plain (OpenSpec.upto filesOrderSpec)) filesOrderUptoCard

/-- THE SECOND FORM's CARD OF 'balefirelaw18.JournalsLook'. -/
def journalsLookUptoCard : Claim7 := { stood := { row := journalsLookUptoRow, standIns := [], harness := (true, "bab4ccc33fe70fc082d520b6a2564761e89414c656df98f838891e3458ae788a"), looks := false }, kinds := [], alts := [], laidByText := true, laidKinds := [.data, .pinned], laidTests := true, laidLooks := .later }
def JournalsLookUptoCardSaid : Prop := Claim7.holds Tryd.pinned (.plain (OpenSpec.upto journalsLookSpec)) journalsLookUptoCard
end Rows
end Go.Proofs.YtjfejpdeccnlnaaDoor
