/-
  No cell of these rows narrows 'for every input' (looked for: loops, veiled, ifaces, maps, wideKeys, modest, calm, conditions, laid).
  DERIVED. THE GIVEN ROWS OF THIS SEAT. 2 by the template 'for every input the law returns true; each argument reads behind the call as it read before'; 0 by the template 'total and deterministic' (their statements: YtpoocnkflmimdaaTotals.lean).
  GIVEN WITH THE SEED: the statements are not yours to turn. If you find one false, say at which input.
  Laid BY PROGRAM, IN A SANDBOX (cutbox-rows.mjs): the forced cells as the released guide's own fill.sh prints them over the translation 53ada72f78361dc9… (all of the seat's roots in one cut). By AI agents, Wed Nov 11 2026. No macro, syntax, notation, axiom, sorry.
-/
import Derived.Test.YtpoocnkflmimdaaChecked
import GoSem.Claim
import GoSem.ClaimJoined
import GoSem.ClaimMapViews
import Derived.JoinedTies
import Derived.KernelRfl
namespace Go.Proofs.Ytpoocnkflmimdaa
/- THE CELL 'sum', in the pinned program and in every row, IS THE sha256 OF THE DUMP (.gsa) THAT YtpoocnkflmimdaaProg.lean LOADS. Nothing in Lean hashes anything: it is a label: what it is worth is what the hold of that sum in a sandbox is worth. -/
noncomputable def Try.pinned : Pinned := { name := "ytpoocnkflmimdaa", sum := "53ada72f78361dc92cbca072c1f13a3c619f6972ab66fd9347981ef428690198", checked := Try.checked }
namespace Rows
def none {H : Type} : Left H := { results := [], args := [] }

/-- 'balefirelaw20.LinksSame': WHATEVER THE INPUT: true; the input reads as it did. -/
def linksSameSpec : ChangeSpec := { name := "linksSame", fn := fun _ => fun
  | [d1, d2, d3] => { results := [.lit (.bool true)], args := [d1, d2, d3] }
  | _ => none }
def linksSameRow : OpenClaim := { program := "ytpoocnkflmimdaa", sum := "53ada72f78361dc92cbca072c1f13a3c619f6972ab66fd9347981ef428690198", func := "balefire/balefirelaw20.LinksSame", spec := "linksSame", inPlace := ["math/bits.Sub64", "math/bits.Add64"], unfollowed := true, recurses := true, named := ["math/bits.divideError", "math/bits.overflowError"], apart := false }
def LinksSameSaid : Prop := linksSameRow.holds Try.pinned (OpenSpec.ofChange linksSameSpec)

/-- ITS FALSE NEIGHBOUR: 'it returns false'. Refute it at one input. -/
def linksSameWrong : ChangeSpec := { name := "linksSame", fn := fun _ => fun
  | [d1, d2, d3] => { results := [.lit (.bool false)], args := [d1, d2, d3] }
  | _ => none }
def LinksSameWrongFalsely : Prop := linksSameRow.holds Try.pinned (OpenSpec.ofChange linksSameWrong)

/-- 'balefirelaw20.LinksPass': WHATEVER THE INPUT: true; the input reads as it did. -/
def linksPassSpec : ChangeSpec := { name := "linksPass", fn := fun _ => fun
  | [d] => { results := [.lit (.bool true)], args := [d] }
  | _ => none }
def linksPassRow : OpenClaim := { program := "ytpoocnkflmimdaa", sum := "53ada72f78361dc92cbca072c1f13a3c619f6972ab66fd9347981ef428690198", func := "balefire/balefirelaw20.LinksPass", spec := "linksPass", inPlace := ["math/bits.Sub64", "math/bits.Add64"], unfollowed := true, recurses := true, named := ["math/bits.divideError", "math/bits.overflowError"], apart := false }
def LinksPassSaid : Prop := linksPassRow.holds Try.pinned (OpenSpec.ofChange linksPassSpec)

/-- ITS FALSE NEIGHBOUR: 'it returns false'. Refute it at one input. -/
def linksPassWrong : ChangeSpec := { name := "linksPass", fn := fun _ => fun
  | [d] => { results := [.lit (.bool false)], args := [d] }
  | _ => none }
def LinksPassWrongFalsely : Prop := linksPassRow.holds Try.pinned (OpenSpec.ofChange linksPassWrong)

/- THE SECOND FORM. 'bulk': how many values and letters a reading holds, each counted each time it is reached (what is shared counts as often as it is met; a slice's spare places count too). A statement '..UptoSaid' is the law's where the arguments, and the package variables that the reading takes, are together of bulk at most 1048576: NARROWER than '..Said'. Prove '..Said' where nothing that the law and all that it calls make is longer than what came in: it says more and counts as full. Else prove '..UptoSaid'. A law counts once. -/
mutual
def uptoBulk {H : Type} : DataW H → Nat
  | .lit (.string bytes) => bytes.length + 1
  | .lit _ => 1
  | .nil => 1
  | .ptr d => uptoBulk d + 1
  | .slice elems spare => uptoBulkAll elems + uptoBulkAll spare + 1
  | .agg parts => uptoBulkAll parts + 1
  | .iface _ d => uptoBulk d + 1
  | .map entries => uptoBulkEntries entries + 1
  | .held _ => 1
def uptoBulkAll {H : Type} : List (DataW H) → Nat
  | [] => 0
  | d :: r => uptoBulk d + uptoBulkAll r
def uptoBulkEntries {H : Type} : List (Lit × DataW H) → Nat
  | [] => 0
  | x :: r => uptoBulkEntry x + uptoBulkEntries r
def uptoBulkEntry {H : Type} : Lit × DataW H → Nat
  | (.string bytes, d) => bytes.length + uptoBulk d + 1
  | (_, d) => uptoBulk d + 1
 end
def uptoSmall : (H : Type) → List (DataW H) → Bool := fun _ ds => decide (uptoBulkAll ds ≤ 1048576)
def OpenSpec.upto (s : _root_.Go.ChangeSpec) : _root_.Go.OpenSpec := { _root_.Go.OpenSpec.ofChange s with cond := some uptoSmall }

/-- 'balefirelaw20.LinksSame', WHERE WHAT IT READS IS OF BULK AT MOST 1048576: true; the input reads as it did. -/
def linksSameUptoRow : OpenClaim := { program := "ytpoocnkflmimdaa", sum := "53ada72f78361dc92cbca072c1f13a3c619f6972ab66fd9347981ef428690198", func := "balefire/balefirelaw20.LinksSame", spec := "linksSame", inPlace := ["math/bits.Sub64", "math/bits.Add64"], unfollowed := true, recurses := true, named := ["math/bits.divideError", "math/bits.overflowError"], apart := false, narrowed := true }
def LinksSameUptoSaid : Prop := linksSameUptoRow.holds Try.pinned (OpenSpec.upto linksSameSpec)

/-- 'balefirelaw20.LinksPass', WHERE WHAT IT READS IS OF BULK AT MOST 1048576: true; the input reads as it did. -/
def linksPassUptoRow : OpenClaim := { program := "ytpoocnkflmimdaa", sum := "53ada72f78361dc92cbca072c1f13a3c619f6972ab66fd9347981ef428690198", func := "balefire/balefirelaw20.LinksPass", spec := "linksPass", inPlace := ["math/bits.Sub64", "math/bits.Add64"], unfollowed := true, recurses := true, named := ["math/bits.divideError", "math/bits.overflowError"], apart := false, narrowed := true }
def LinksPassUptoSaid : Prop := linksPassUptoRow.holds Try.pinned (OpenSpec.upto linksPassSpec)

end Rows
end Go.Proofs.Ytpoocnkflmimdaa
