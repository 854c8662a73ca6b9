/-
  DERIVED. GIVEN WITH THE SEED: THE CARDS: each row of YtpjjcicgkngglaaDoorRows.lean that lists a variable, with what it lists TIED to the program's text (the seventh form; the later family's looks); each row that meets fmt, with fmt's text TOLD by the authors' own Lean function (tested against real Go, not proved from fmt's source: count such statements apart). THE CARD IS WHAT COUNTS. Prove the row's statement (the work); the ties are given (YtpjjcicgkngglaaDoorTie.lean); close each card by the builder's one call (the guide's Derived/Test/ToyasCard.lean, 'card_holds'). Laid BY PROGRAM, IN A SANDBOX (cutbox-door.mjs). By AI agents, Wed Nov 11 2026. No macro, syntax, notation, axiom, sorry.
-/
import Derived.Test.YtpjjcicgkngglaaDoorRows
import GoSem.ClaimSeven
namespace Go.Proofs.YtpjjcicgkngglaaDoor
namespace Rows

/-- THE TIED CARD OF 'balefirelaw17.FilesVoid'. -/
def filesVoidCard : Claim7 := { stood := { row := filesVoidRow, standIns := [], harness := (true, "00dfebe2131726dabd9fbcb951730a890b6f57d95897bf3052740e012deab66d"), looks := false }, kinds := [], alts := [], laidByText := true, laidKinds := [.data, .pinned], laidTests := true, laidLooks := .later }
def FilesVoidCardSaid : Prop := Claim7.holds Tryd.pinned (.plain (OpenSpec.ofChange filesVoidSpec)) filesVoidCard

/-- THE SECOND FORM's CARD OF 'balefirelaw17.FilesVoid'. -/
def filesVoidUptoCard : Claim7 := { stood := { row := filesVoidUptoRow, standIns := [], harness := (true, "00dfebe2131726dabd9fbcb951730a890b6f57d95897bf3052740e012deab66d"), looks := false }, kinds := [], alts := [], laidByText := true, laidKinds := [.data, .pinned], laidTests := true, laidLooks := .later }
def FilesVoidUptoCardSaid : Prop := Claim7.holds Tryd.pinned (.plain (OpenSpec.upto filesVoidSpec)) filesVoidUptoCard
end Rows
end Go.Proofs.YtpjjcicgkngglaaDoor
