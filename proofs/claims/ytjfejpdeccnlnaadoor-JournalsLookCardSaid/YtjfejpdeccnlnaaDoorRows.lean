/-
  NARROWER THAN 'FOR EVERY INPUT', by the rows' own cells (each row's printed sentence says how): JournalsRoom: laid · JournalsMidst: laid · JournalsGraft: laid · JournalsLeft: laid · FilesOrder: laid · JournalsLook: laid.
  DERIVED. THE GIVEN ROWS OF THIS SEAT. 6 by the template 'for every input the law returns true; each argument reads behind the call as it read before'; 0 by the template 'total and deterministic' (their statements: YtjfejpdeccnlnaaDoorTotals.lean).
  GIVEN WITH THE SEED: the statements are not yours to turn. If you find one false, say at which input.
  Laid BY PROGRAM, IN A SANDBOX (cutbox-rows.mjs): the forced cells as the released guide's own fill.sh prints them over the translation 0d8e61580c5480b9… (all of the seat's roots in one cut). By AI agents, Wed Nov 11 2026. No macro, syntax, notation, axiom, sorry.
-/
import Derived.Test.YtjfejpdeccnlnaaDoorChecked
import GoSem.PinnedTables
import GoSem.Claim
import GoSem.ClaimJoined
import GoSem.ClaimMapViews
import Derived.JoinedTies
import Derived.KernelRfl
namespace Go.Proofs.YtjfejpdeccnlnaaDoor
/- THE CELL 'sum', in the pinned program and in every row, IS THE sha256 OF THE DUMP (.gsa) THAT YtjfejpdeccnlnaaDoorProg.lean LOADS. Nothing in Lean hashes anything: it is a label: what it is worth is what the hold of that sum in a sandbox is worth. -/
noncomputable def Tryd.pinned : Pinned := { name := "ytjfejpdeccnlnaadoor", sum := "0d8e61580c5480b9a70aec2e08bf1339e0173ba732d3587128f6163d7d76f80e", checked := Tryd.checked }
namespace Rows
def none {H : Type} : Left H := { results := [], args := [] }

/- WHAT THE LISTED PACKAGE-LEVEL VARIABLES READ AS WHEN THE CALL BEGINS. Each datum BY PROGRAM (the guide's laid-datum.mjs) off the statement by which the dump's own 'gosem.cut.vars' lays the variable. In a bare row this is a premise. The card (YtjfejpdeccnlnaaDoorCards.lean) ties it to the program's text. -/
def laid_unicode_utf8_acceptRanges {H : Type} : DataW H := .agg [.agg [.lit (.int .u8 128), .lit (.int .u8 191)], .agg [.lit (.int .u8 160), .lit (.int .u8 191)], .agg [.lit (.int .u8 128), .lit (.int .u8 159)], .agg [.lit (.int .u8 144), .lit (.int .u8 191)], .agg [.lit (.int .u8 128), .lit (.int .u8 143)], .agg [.lit (.int .u8 0), .lit (.int .u8 0)], .agg [.lit (.int .u8 0), .lit (.int .u8 0)], .agg [.lit (.int .u8 0), .lit (.int .u8 0)], .agg [.lit (.int .u8 0), .lit (.int .u8 0)], .agg [.lit (.int .u8 0), .lit (.int .u8 0)], .agg [.lit (.int .u8 0), .lit (.int .u8 0)], .agg [.lit (.int .u8 0), .lit (.int .u8 0)], .agg [.lit (.int .u8 0), .lit (.int .u8 0)], .agg [.lit (.int .u8 0), .lit (.int .u8 0)], .agg [.lit (.int .u8 0), .lit (.int .u8 0)], .agg [.lit (.int .u8 0), .lit (.int .u8 0)]]
/-- One of Go's own tables, pinned by name: the form's constant. -/
def laid_unicode_utf8_first : DataW Unit := Go.Pinned.utf8First

/-- 'balefirelaw18.JournalsRoom': WHATEVER THE INPUT: true; the input reads as it did. -/
def journalsRoomSpec : ChangeSpec := { name := "journalsRoom", fn := fun _ => fun
  | [d1, d2, d3] => { results := [.lit (.bool true)], args := [d1, d2, d3] }
  | _ => none }
def journalsRoomRow : OpenClaim := { program := "ytjfejpdeccnlnaadoor", sum := "0d8e61580c5480b9a70aec2e08bf1339e0173ba732d3587128f6163d7d76f80e", func := "balefire/balefirelaw18.JournalsRoom", spec := "journalsRoom", inPlace := ["internal/bytealg.IndexByteString", "internal/bytealg.IndexString"], unfollowed := true, recurses := true, named := ["unicode/utf8.first", "unicode/utf8.acceptRanges", "internal/bytealg.MaxLen"], apart := false, laid := [("unicode/utf8.acceptRanges", laid_unicode_utf8_acceptRanges), ("unicode/utf8.first", laid_unicode_utf8_first)] }
def JournalsRoomSaid : Prop := journalsRoomRow.holds Tryd.pinned (OpenSpec.ofChange journalsRoomSpec)

/-- ITS FALSE NEIGHBOUR: 'it returns false'. Refute it at one input. -/
def journalsRoomWrong : ChangeSpec := { name := "journalsRoom", fn := fun _ => fun
  | [d1, d2, d3] => { results := [.lit (.bool false)], args := [d1, d2, d3] }
  | _ => none }
def JournalsRoomWrongFalsely : Prop := journalsRoomRow.holds Tryd.pinned (OpenSpec.ofChange journalsRoomWrong)

/-- 'balefirelaw18.JournalsMidst': WHATEVER THE INPUT: true; the input reads as it did. -/
def journalsMidstSpec : ChangeSpec := { name := "journalsMidst", fn := fun _ => fun
  | [d1, d2] => { results := [.lit (.bool true)], args := [d1, d2] }
  | _ => none }
def journalsMidstRow : OpenClaim := { program := "ytjfejpdeccnlnaadoor", sum := "0d8e61580c5480b9a70aec2e08bf1339e0173ba732d3587128f6163d7d76f80e", func := "balefire/balefirelaw18.JournalsMidst", spec := "journalsMidst", inPlace := ["internal/bytealg.IndexByteString", "internal/bytealg.IndexString"], unfollowed := true, recurses := true, named := ["unicode/utf8.first", "unicode/utf8.acceptRanges", "internal/bytealg.MaxLen"], apart := false, laid := [("unicode/utf8.acceptRanges", laid_unicode_utf8_acceptRanges), ("unicode/utf8.first", laid_unicode_utf8_first)] }
def JournalsMidstSaid : Prop := journalsMidstRow.holds Tryd.pinned (OpenSpec.ofChange journalsMidstSpec)

/-- ITS FALSE NEIGHBOUR: 'it returns false'. Refute it at one input. -/
def journalsMidstWrong : ChangeSpec := { name := "journalsMidst", fn := fun _ => fun
  | [d1, d2] => { results := [.lit (.bool false)], args := [d1, d2] }
  | _ => none }
def JournalsMidstWrongFalsely : Prop := journalsMidstRow.holds Tryd.pinned (OpenSpec.ofChange journalsMidstWrong)

/-- 'balefirelaw18.JournalsGraft': WHATEVER THE INPUT: true; the input reads as it did. -/
def journalsGraftSpec : ChangeSpec := { name := "journalsGraft", fn := fun _ => fun
  | [d1, d2, d3] => { results := [.lit (.bool true)], args := [d1, d2, d3] }
  | _ => none }
def journalsGraftRow : OpenClaim := { program := "ytjfejpdeccnlnaadoor", sum := "0d8e61580c5480b9a70aec2e08bf1339e0173ba732d3587128f6163d7d76f80e", func := "balefire/balefirelaw18.JournalsGraft", spec := "journalsGraft", inPlace := ["internal/bytealg.IndexByteString", "internal/bytealg.IndexString"], unfollowed := true, recurses := true, named := ["unicode/utf8.first", "unicode/utf8.acceptRanges", "internal/bytealg.MaxLen"], apart := false, laid := [("unicode/utf8.acceptRanges", laid_unicode_utf8_acceptRanges), ("unicode/utf8.first", laid_unicode_utf8_first)] }
def JournalsGraftSaid : Prop := journalsGraftRow.holds Tryd.pinned (OpenSpec.ofChange journalsGraftSpec)

/-- ITS FALSE NEIGHBOUR: 'it returns false'. Refute it at one input. -/
def journalsGraftWrong : ChangeSpec := { name := "journalsGraft", fn := fun _ => fun
  | [d1, d2, d3] => { results := [.lit (.bool false)], args := [d1, d2, d3] }
  | _ => none }
def JournalsGraftWrongFalsely : Prop := journalsGraftRow.holds Tryd.pinned (OpenSpec.ofChange journalsGraftWrong)

/-- 'balefirelaw18.JournalsLeft': WHATEVER THE INPUT: true; the input reads as it did. -/
def journalsLeftSpec : ChangeSpec := { name := "journalsLeft", fn := fun _ => fun
  | [d1, d2, d3] => { results := [.lit (.bool true)], args := [d1, d2, d3] }
  | _ => none }
def journalsLeftRow : OpenClaim := { program := "ytjfejpdeccnlnaadoor", sum := "0d8e61580c5480b9a70aec2e08bf1339e0173ba732d3587128f6163d7d76f80e", func := "balefire/balefirelaw18.JournalsLeft", spec := "journalsLeft", inPlace := ["internal/bytealg.IndexByteString", "internal/bytealg.IndexString"], unfollowed := true, recurses := true, named := ["unicode/utf8.first", "unicode/utf8.acceptRanges", "internal/bytealg.MaxLen"], apart := false, laid := [("unicode/utf8.acceptRanges", laid_unicode_utf8_acceptRanges), ("unicode/utf8.first", laid_unicode_utf8_first)] }
def JournalsLeftSaid : Prop := journalsLeftRow.holds Tryd.pinned (OpenSpec.ofChange journalsLeftSpec)

/-- ITS FALSE NEIGHBOUR: 'it returns false'. Refute it at one input. -/
def journalsLeftWrong : ChangeSpec := { name := "journalsLeft", fn := fun _ => fun
  | [d1, d2, d3] => { results := [.lit (.bool false)], args := [d1, d2, d3] }
  | _ => none }
def JournalsLeftWrongFalsely : Prop := journalsLeftRow.holds Tryd.pinned (OpenSpec.ofChange journalsLeftWrong)

/-- 'balefirelaw17.FilesOrder': WHATEVER THE INPUT: true; the input reads as it did. -/
def filesOrderSpec : ChangeSpec := { name := "filesOrder", fn := fun _ => fun
  | [d1, d2, d3] => { results := [.lit (.bool true)], args := [d1, d2, d3] }
  | _ => none }
def filesOrderRow : OpenClaim := { program := "ytjfejpdeccnlnaadoor", sum := "0d8e61580c5480b9a70aec2e08bf1339e0173ba732d3587128f6163d7d76f80e", func := "balefire/balefirelaw17.FilesOrder", spec := "filesOrder", inPlace := ["internal/bytealg.IndexByteString", "internal/bytealg.IndexString"], recurses := true, named := ["unicode/utf8.first", "unicode/utf8.acceptRanges", "internal/bytealg.MaxLen"], apart := false, laid := [("unicode/utf8.acceptRanges", laid_unicode_utf8_acceptRanges), ("unicode/utf8.first", laid_unicode_utf8_first)] }
def FilesOrderSaid : Prop := filesOrderRow.holds Tryd.pinned (OpenSpec.ofChange filesOrderSpec)

/-- ITS FALSE NEIGHBOUR: 'it returns false'. Refute it at one input. -/
def filesOrderWrong : ChangeSpec := { name := "filesOrder", fn := fun _ => fun
  | [d1, d2, d3] => { results := [.lit (.bool false)], args := [d1, d2, d3] }
  | _ => none }
def FilesOrderWrongFalsely : Prop := filesOrderRow.holds Tryd.pinned (OpenSpec.ofChange filesOrderWrong)

/-- 'balefirelaw18.JournalsLook': WHATEVER THE INPUT: true; the input reads as it did. -/
def journalsLookSpec : ChangeSpec := { name := "journalsLook", fn := fun _ => fun
  | [d1, d2, d3] => { results := [.lit (.bool true)], args := [d1, d2, d3] }
  | _ => none }
def journalsLookRow : OpenClaim := { program := "ytjfejpdeccnlnaadoor", sum := "0d8e61580c5480b9a70aec2e08bf1339e0173ba732d3587128f6163d7d76f80e", func := "balefire/balefirelaw18.JournalsLook", spec := "journalsLook", inPlace := ["internal/bytealg.IndexByteString", "internal/bytealg.IndexString"], unfollowed := true, recurses := true, named := ["unicode/utf8.first", "unicode/utf8.acceptRanges", "internal/bytealg.MaxLen"], apart := false, laid := [("unicode/utf8.acceptRanges", laid_unicode_utf8_acceptRanges), ("unicode/utf8.first", laid_unicode_utf8_first)] }
def JournalsLookSaid : Prop := journalsLookRow.holds Tryd.pinned (OpenSpec.ofChange journalsLookSpec)

/-- ITS FALSE NEIGHBOUR: 'it returns false'. Refute it at one input. -/
def journalsLookWrong : ChangeSpec := { name := "journalsLook", fn := fun _ => fun
  | [d1, d2, d3] => { results := [.lit (.bool false)], args := [d1, d2, d3] }
  | _ => none }
def JournalsLookWrongFalsely : Prop := journalsLookRow.holds Tryd.pinned (OpenSpec.ofChange journalsLookWrong)

/- THE SECOND FORM. 'bulk': how many values and letters a reading holds, each counted each time it is reached (what is shared counts as often as it is met; a slice's spare places count too). A statement '..UptoSaid' is the law's where the arguments, and the package variables that the reading takes, are together of bulk at most 1048576: NARROWER than '..Said'. Prove '..Said' where nothing that the law and all that it calls make is longer than what came in: it says more and counts as full. Else prove '..UptoSaid'. A law counts once. -/
mutual
def uptoBulk {H : Type} : DataW H → Nat
  | .lit (.string bytes) => bytes.length + 1
  | .lit _ => 1
  | .nil => 1
  | .ptr d => uptoBulk d + 1
  | .slice elems spare => uptoBulkAll elems + uptoBulkAll spare + 1
  | .agg parts => uptoBulkAll parts + 1
  | .iface _ d => uptoBulk d + 1
  | .map entries => uptoBulkEntries entries + 1
  | .held _ => 1
def uptoBulkAll {H : Type} : List (DataW H) → Nat
  | [] => 0
  | d :: r => uptoBulk d + uptoBulkAll r
def uptoBulkEntries {H : Type} : List (Lit × DataW H) → Nat
  | [] => 0
  | x :: r => uptoBulkEntry x + uptoBulkEntries r
def uptoBulkEntry {H : Type} : Lit × DataW H → Nat
  | (.string bytes, d) => bytes.length + uptoBulk d + 1
  | (_, d) => uptoBulk d + 1
 end
def uptoSmall : (H : Type) → List (DataW H) → Bool := fun _ ds => decide (uptoBulkAll ds ≤ 1048576)
def OpenSpec.upto (s : _root_.Go.ChangeSpec) : _root_.Go.OpenSpec := { _root_.Go.OpenSpec.ofChange s with cond := some uptoSmall }

/-- 'balefirelaw18.JournalsRoom', WHERE WHAT IT READS IS OF BULK AT MOST 1048576: true; the input reads as it did. -/
def journalsRoomUptoRow : OpenClaim := { program := "ytjfejpdeccnlnaadoor", sum := "0d8e61580c5480b9a70aec2e08bf1339e0173ba732d3587128f6163d7d76f80e", func := "balefire/balefirelaw18.JournalsRoom", spec := "journalsRoom", inPlace := ["internal/bytealg.IndexByteString", "internal/bytealg.IndexString"], unfollowed := true, recurses := true, named := ["unicode/utf8.first", "unicode/utf8.acceptRanges", "internal/bytealg.MaxLen"], apart := false, laid := [("unicode/utf8.acceptRanges", laid_unicode_utf8_acceptRanges), ("unicode/utf8.first", laid_unicode_utf8_first)], narrowed := true }
def JournalsRoomUptoSaid : Prop := journalsRoomUptoRow.holds Tryd.pinned (OpenSpec.upto journalsRoomSpec)

/-- 'balefirelaw18.JournalsMidst', WHERE WHAT IT READS IS OF BULK AT MOST 1048576: true; the input reads as it did. -/
def journalsMidstUptoRow : OpenClaim := { program := "ytjfejpdeccnlnaadoor", sum := "0d8e61580c5480b9a70aec2e08bf1339e0173ba732d3587128f6163d7d76f80e", func := "balefire/balefirelaw18.JournalsMidst", spec := "journalsMidst", inPlace := ["internal/bytealg.IndexByteString", "internal/bytealg.IndexString"], unfollowed := true, recurses := true, named := ["unicode/utf8.first", "unicode/utf8.acceptRanges", "internal/bytealg.MaxLen"], apart := false, laid := [("unicode/utf8.acceptRanges", laid_unicode_utf8_acceptRanges), ("unicode/utf8.first", laid_unicode_utf8_first)], narrowed := true }
def JournalsMidstUptoSaid : Prop := journalsMidstUptoRow.holds Tryd.pinned (OpenSpec.upto journalsMidstSpec)

/-- 'balefirelaw18.JournalsGraft', WHERE WHAT IT READS IS OF BULK AT MOST 1048576: true; the input reads as it did. -/
def journalsGraftUptoRow : OpenClaim := { program := "ytjfejpdeccnlnaadoor", sum := "0d8e61580c5480b9a70aec2e08bf1339e0173ba732d3587128f6163d7d76f80e", func := "balefire/balefirelaw18.JournalsGraft", spec := "journalsGraft", inPlace := ["internal/bytealg.IndexByteString", "internal/bytealg.IndexString"], unfollowed := true, recurses := true, named := ["unicode/utf8.first", "unicode/utf8.acceptRanges", "internal/bytealg.MaxLen"], apart := false, laid := [("unicode/utf8.acceptRanges", laid_unicode_utf8_acceptRanges), ("unicode/utf8.first", laid_unicode_utf8_first)], narrowed := true }
def JournalsGraftUptoSaid : Prop := journalsGraftUptoRow.holds Tryd.pinned (OpenSpec.upto journalsGraftSpec)

/-- 'balefirelaw18.JournalsLeft', WHERE WHAT IT READS IS OF BULK AT MOST 1048576: true; the input reads as it did. -/
def journalsLeftUptoRow : OpenClaim := { program := "ytjfejpdeccnlnaadoor", sum := "0d8e61580c5480b9a70aec2e08bf1339e0173ba732d3587128f6163d7d76f80e", func := "balefire/balefirelaw18.JournalsLeft", spec := "journalsLeft", inPlace := ["internal/bytealg.IndexByteString", "internal/bytealg.IndexString"], unfollowed := true, recurses := true, named := ["unicode/utf8.first", "unicode/utf8.acceptRanges", "internal/bytealg.MaxLen"], apart := false, laid := [("unicode/utf8.acceptRanges", laid_unicode_utf8_acceptRanges), ("unicode/utf8.first", laid_unicode_utf8_first)], narrowed := true }
def JournalsLeftUptoSaid : Prop := journalsLeftUptoRow.holds Tryd.pinned (OpenSpec.upto journalsLeftSpec)

/-- 'balefirelaw17.FilesOrder', WHERE WHAT IT READS IS OF BULK AT MOST 1048576: true; the input reads as it did. -/
def filesOrderUptoRow : OpenClaim := { program := "ytjfejpdeccnlnaadoor", sum := "0d8e61580c5480b9a70aec2e08bf1339e0173ba732d3587128f6163d7d76f80e", func := "balefire/balefirelaw17.FilesOrder", spec := "filesOrder", inPlace := ["internal/bytealg.IndexByteString", "internal/bytealg.IndexString"], recurses := true, named := ["unicode/utf8.first", "unicode/utf8.acceptRanges", "internal/bytealg.MaxLen"], apart := false, laid := [("unicode/utf8.acceptRanges", laid_unicode_utf8_acceptRanges), ("unicode/utf8.first", laid_unicode_utf8_first)], narrowed := true }
def FilesOrderUptoSaid : Prop := filesOrderUptoRow.holds Tryd.pinned (OpenSpec.upto filesOrderSpec)

/-- 'balefirelaw18.JournalsLook', WHERE WHAT IT READS IS OF BULK AT MOST 1048576: true; the input reads as it did. -/
def journalsLookUptoRow : OpenClaim := { program := "ytjfejpdeccnlnaadoor", sum := "0d8e61580c5480b9a70aec2e08bf1339e0173ba732d3587128f6163d7d76f80e", func := "balefire/balefirelaw18.JournalsLook", spec := "journalsLook", inPlace := ["internal/bytealg.IndexByteString", "internal/bytealg.IndexString"], unfollowed := true, recurses := true, named := ["unicode/utf8.first", "unicode/utf8.acceptRanges", "internal/bytealg.MaxLen"], apart := false, laid := [("unicode/utf8.acceptRanges", laid_unicode_utf8_acceptRanges), ("unicode/utf8.first", laid_unicode_utf8_first)], narrowed := true }
def JournalsLookUptoSaid : Prop := journalsLookUptoRow.holds Tryd.pinned (OpenSpec.upto journalsLookSpec)

end Rows
end Go.Proofs.YtjfejpdeccnlnaaDoor
