/-
  DERIVED. GIVEN WITH THE SEED: THE CARDS: each row of YtjaganoidfohaaaDoorRows.lean that lists a variable, with what it lists TIED to the program's text (the seventh form; the later family's looks); each row that meets fmt, with fmt's text TOLD by the authors' own Lean function (tested against real Go, not proved from fmt's source: count such statements apart). THE CARD IS WHAT COUNTS. Prove the row's statement (the work); the ties are given (YtjaganoidfohaaaDoorTie.lean); close each card by the builder's one call (the guide's Derived/Test/ToyasCard.lean, 'card_holds'). Laid BY PROGRAM, IN A SANDBOX (cutbox-door.mjs). By AI agents, Wed Nov 11 2026. No macro, syntax, notation, axiom, sorry.
-/
import Derived.Test.YtjaganoidfohaaaDoorRows
import GoSem.ClaimSeven
namespace Go.Proofs.YtjaganoidfohaaaDoor
namespace Rows

/-- THE TIED CARD OF 'balefirelaw17.FilesOrder'. -/
def filesOrderCard : Claim7 := { stood := { row := filesOrderRow, standIns := [], harness := (true, "ac352a11bbdf658d7dbe0f9a8a95d0224ab3b628337cab893c5801c1b3d61556"), looks := false }, kinds := [], alts := [], laidByText := true, laidKinds := [.data, .pinned], laidTests := true, laidLooks := .later }
def FilesOrderCardSaid : Prop := Claim7.holds Tryd.pinned (.plain (OpenSpec.ofChange filesOrderSpec)) filesOrderCard

/-- THE TIED CARD OF 'balefirelaw17.FilesPieces'. -/
def filesPiecesCard : Claim7 := { stood := { row := filesPiecesRow, standIns := [], harness := (true, "ac352a11bbdf658d7dbe0f9a8a95d0224ab3b628337cab893c5801c1b3d61556"), looks := false }, kinds := [], alts := [], laidByText := true, laidKinds := [.data, .pinned], laidTests := true, laidLooks := .later }
def FilesPiecesCardSaid : Prop := Claim7.holds Tryd.pinned (.plain (OpenSpec.ofChange filesPiecesSpec)) filesPiecesCard

/-- THE TIED CARD OF 'balefirelaw17.FilesIdle'. -/
def filesIdleCard : Claim7 := { stood := { row := filesIdleRow, standIns := [], harness := (true, "ac352a11bbdf658d7dbe0f9a8a95d0224ab3b628337cab893c5801c1b3d61556"), looks := false }, kinds := [], alts := [], laidByText := true, laidKinds := [.data, .pinned], laidTests := true, laidLooks := .later }
def FilesIdleCardSaid : Prop := Claim7.holds Tryd.pinned (.plain (OpenSpec.ofChange filesIdleSpec)) filesIdleCard

/-- THE TIED CARD OF 'balefirelaw17.FilesThere'. -/
def filesThereCard : Claim7 := { stood := { row := filesThereRow, standIns := [], harness := (true, "ac352a11bbdf658d7dbe0f9a8a95d0224ab3b628337cab893c5801c1b3d61556"), looks := false }, kinds := [], alts := [], laidByText := true, laidKinds := [.data, .pinned], laidTests := true, laidLooks := .later }
def FilesThereCardSaid : Prop := Claim7.holds Tryd.pinned (.plain (OpenSpec.ofChange filesThereSpec)) filesThereCard

/-- THE TIED CARD OF 'balefirelaw17.FilesGone'. -/
def filesGoneCard : Claim7 := { stood := { row := filesGoneRow, standIns := [], harness := (true, "ac352a11bbdf658d7dbe0f9a8a95d0224ab3b628337cab893c5801c1b3d61556"), looks := false }, kinds := [], alts := [], laidByText := true, laidKinds := [.data, .pinned], laidTests := true, laidLooks := .later }
def FilesGoneCardSaid : Prop := Claim7.holds Tryd.pinned (.plain (OpenSpec.ofChange filesGoneSpec)) filesGoneCard

/-- THE TIED CARD OF 'balefirelaw17.FilesMost'. -/
def filesMostCard : Claim7 := { stood := { row := filesMostRow, standIns := [], harness := (true, "ac352a11bbdf658d7dbe0f9a8a95d0224ab3b628337cab893c5801c1b3d61556"), looks := false }, kinds := [], alts := [], laidByText := true, laidKinds := [.data, .pinned], laidTests := true, laidLooks := .later }
def FilesMostCardSaid : Prop := Claim7.holds Tryd.pinned (.plain (OpenSpec.ofChange filesMostSpec)) filesMostCard

/-- THE SECOND FORM's CARD OF 'balefirelaw17.FilesOrder'. -/
def filesOrderUptoCard : Claim7 := { stood := { row := filesOrderUptoRow, standIns := [], harness := (true, "ac352a11bbdf658d7dbe0f9a8a95d0224ab3b628337cab893c5801c1b3d61556"), looks := false }, kinds := [], alts := [], laidByText := true, laidKinds := [.data, .pinned], laidTests := true, laidLooks := .later }
def FilesOrderUptoCardSaid : Prop := Claim7.holds Tryd.pinned (.plain (OpenSpec.upto filesOrderSpec)) filesOrderUptoCard

/-- THE SECOND FORM's CARD OF 'balefirelaw17.FilesPieces'. -/
def filesPiecesUptoCard : Claim7 := { stood := { row := filesPiecesUptoRow, standIns := [], harness := (true, "ac352a11bbdf658d7dbe0f9a8a95d0224ab3b628337cab893c5801c1b3d61556"), looks := false }, kinds := [], alts := [], laidByText := true, laidKinds := [.data, .pinned], laidTests := true, laidLooks := .later }
def FilesPiecesUptoCardSaid : Prop := Claim7.holds Tryd.pinned (.plain (OpenSpec.upto filesPiecesSpec)) filesPiecesUptoCard

/-- THE SECOND FORM's CARD OF 'balefirelaw17.FilesIdle'. -/
def filesIdleUptoCard : Claim7 := { stood := { row := filesIdleUptoRow, standIns := [], harness := (true, "ac352a11bbdf658d7dbe0f9a8a95d0224ab3b628337cab893c5801c1b3d61556"), looks := false }, kinds := [], alts := [], laidByText := true, laidKinds := [.data, .pinned], laidTests := true, laidLooks := .later }
def FilesIdleUptoCardSaid : Prop := Claim7.holds Tryd.pinned (.plain (OpenSpec.upto filesIdleSpec)) filesIdleUptoCard

/-- THE SECOND FORM's CARD OF 'balefirelaw17.FilesThere'. -/
def filesThereUptoCard : Claim7 := { stood := { row := filesThereUptoRow, standIns := [], harness := (true, "ac352a11bbdf658d7dbe0f9a8a95d0224ab3b628337cab893c5801c1b3d61556"), looks := false }, kinds := [], alts := [], laidByText := true, laidKinds := [.data, .pinned], laidTests := true, laidLooks := .later }
def FilesThereUptoCardSaid : Prop := Claim7.holds Tryd.pinned (.plain (OpenSpec.upto filesThereSpec)) filesThereUptoCard

/-- THE SECOND FORM's CARD OF 'balefirelaw17.FilesGone'. -/
def filesGoneUptoCard : Claim7 := { stood := { row := filesGoneUptoRow, standIns := [], harness := (true, "ac352a11bbdf658d7dbe0f9a8a95d0224ab3b628337cab893c5801c1b3d61556"), looks := false }, kinds := [], alts := [], laidByText := true, laidKinds := [.data, .pinned], laidTests := true, laidLooks := .later }
def FilesGoneUptoCardSaid : Prop := Claim7.holds Tryd.pinned (.plain (OpenSpec.upto filesGoneSpec)) filesGoneUptoCard

/-- THE SECOND FORM's CARD OF 'balefirelaw17.FilesMost'. -/
def filesMostUptoCard : Claim7 := { stood := { row := filesMostUptoRow, standIns := [], harness := (true, "ac352a11bbdf658d7dbe0f9a8a95d0224ab3b628337cab893c5801c1b3d61556"), looks := false }, kinds := [], alts := [], laidByText := true, laidKinds := [.data, .pinned], laidTests := true, laidLooks := .later }
def FilesMostUptoCardSaid : Prop := Claim7.holds Tryd.pinned (.plain (OpenSpec.upto filesMostSpec)) filesMostUptoCard
end Rows
end Go.Proofs.YtjaganoidfohaaaDoor
