/-
  No cell of these rows narrows 'for every input' (looked for: loops, veiled, ifaces, maps, wideKeys, modest, calm, conditions, laid).
  DERIVED. THE GIVEN ROWS OF THIS SEAT. 7 by the template 'for every input the law returns true; each argument reads behind the call as it read before'; 0 by the template 'total and deterministic' (their statements: YtdhkkigijcggmaaTotals.lean).
  GIVEN WITH THE SEED: the statements are not yours to turn. If you find one false, say at which input.
  Laid BY PROGRAM, IN A SANDBOX (cutbox-rows.mjs): the forced cells as the released guide's own fill.sh prints them over the translation c997dc5da6a5e1c5… (all of the seat's roots in one cut). By AI agents, Wed Nov 11 2026. No macro, syntax, notation, axiom, sorry.
-/
import Derived.Test.YtdhkkigijcggmaaChecked
import GoSem.Claim
import GoSem.ClaimJoined
import GoSem.ClaimMapViews
import Derived.JoinedTies
import Derived.KernelRfl
namespace Go.Proofs.Ytdhkkigijcggmaa
/- THE CELL 'sum', in the pinned program and in every row, IS THE sha256 OF THE DUMP (.gsa) THAT YtdhkkigijcggmaaProg.lean LOADS. Nothing in Lean hashes anything: it is a label: what it is worth is what the hold of that sum in a sandbox is worth. -/
noncomputable def Try.pinned : Pinned := { name := "ytdhkkigijcggmaa", sum := "c997dc5da6a5e1c5cd1e0b2e13cf116ec9a77b26f0faa915e8aee63942745af5", checked := Try.checked }
namespace Rows
def none {H : Type} : Left H := { results := [], args := [] }

/-- 'balefirelaw02.LimbsOf': WHATEVER THE INPUT: true; the input reads as it did. -/
def limbsOfSpec : ChangeSpec := { name := "limbsOf", fn := fun _ => fun
  | [d1, d2, d3] => { results := [.lit (.bool true)], args := [d1, d2, d3] }
  | _ => none }
def limbsOfRow : OpenClaim := { program := "ytdhkkigijcggmaa", sum := "c997dc5da6a5e1c5cd1e0b2e13cf116ec9a77b26f0faa915e8aee63942745af5", func := "balefire/balefirelaw02.LimbsOf", spec := "limbsOf", inPlace := ["math/bits.Add64", "math/bits.Sub64"], apart := false }
def LimbsOfSaid : Prop := limbsOfRow.holds Try.pinned (OpenSpec.ofChange limbsOfSpec)

/-- ITS FALSE NEIGHBOUR: 'it returns false'. Refute it at one input. -/
def limbsOfWrong : ChangeSpec := { name := "limbsOf", fn := fun _ => fun
  | [d1, d2, d3] => { results := [.lit (.bool false)], args := [d1, d2, d3] }
  | _ => none }
def LimbsOfWrongFalsely : Prop := limbsOfRow.holds Try.pinned (OpenSpec.ofChange limbsOfWrong)

/-- 'balefirelaw02.LimbsSums': WHATEVER THE INPUT: true; the input reads as it did. -/
def limbsSumsSpec : ChangeSpec := { name := "limbsSums", fn := fun _ => fun
  | [d] => { results := [.lit (.bool true)], args := [d] }
  | _ => none }
def limbsSumsRow : OpenClaim := { program := "ytdhkkigijcggmaa", sum := "c997dc5da6a5e1c5cd1e0b2e13cf116ec9a77b26f0faa915e8aee63942745af5", func := "balefire/balefirelaw02.LimbsSums", spec := "limbsSums", inPlace := ["math/bits.Add64", "math/bits.Sub64"], apart := false }
def LimbsSumsSaid : Prop := limbsSumsRow.holds Try.pinned (OpenSpec.ofChange limbsSumsSpec)

/-- ITS FALSE NEIGHBOUR: 'it returns false'. Refute it at one input. -/
def limbsSumsWrong : ChangeSpec := { name := "limbsSums", fn := fun _ => fun
  | [d] => { results := [.lit (.bool false)], args := [d] }
  | _ => none }
def LimbsSumsWrongFalsely : Prop := limbsSumsRow.holds Try.pinned (OpenSpec.ofChange limbsSumsWrong)

/-- 'balefirelaw02.LimbsProducts': WHATEVER THE INPUT: true; the input reads as it did. -/
def limbsProductsSpec : ChangeSpec := { name := "limbsProducts", fn := fun _ => fun
  | [d] => { results := [.lit (.bool true)], args := [d] }
  | _ => none }
def limbsProductsRow : OpenClaim := { program := "ytdhkkigijcggmaa", sum := "c997dc5da6a5e1c5cd1e0b2e13cf116ec9a77b26f0faa915e8aee63942745af5", func := "balefire/balefirelaw02.LimbsProducts", spec := "limbsProducts", inPlace := ["math/bits.Add64", "math/bits.Sub64"], apart := false }
def LimbsProductsSaid : Prop := limbsProductsRow.holds Try.pinned (OpenSpec.ofChange limbsProductsSpec)

/-- ITS FALSE NEIGHBOUR: 'it returns false'. Refute it at one input. -/
def limbsProductsWrong : ChangeSpec := { name := "limbsProducts", fn := fun _ => fun
  | [d] => { results := [.lit (.bool false)], args := [d] }
  | _ => none }
def LimbsProductsWrongFalsely : Prop := limbsProductsRow.holds Try.pinned (OpenSpec.ofChange limbsProductsWrong)

/-- 'balefirelaw02.LimbsShift': WHATEVER THE INPUT: true; the input reads as it did. -/
def limbsShiftSpec : ChangeSpec := { name := "limbsShift", fn := fun _ => fun
  | [d1, d2] => { results := [.lit (.bool true)], args := [d1, d2] }
  | _ => none }
def limbsShiftRow : OpenClaim := { program := "ytdhkkigijcggmaa", sum := "c997dc5da6a5e1c5cd1e0b2e13cf116ec9a77b26f0faa915e8aee63942745af5", func := "balefire/balefirelaw02.LimbsShift", spec := "limbsShift", inPlace := ["math/bits.Add64", "math/bits.Sub64"], apart := false }
def LimbsShiftSaid : Prop := limbsShiftRow.holds Try.pinned (OpenSpec.ofChange limbsShiftSpec)

/-- ITS FALSE NEIGHBOUR: 'it returns false'. Refute it at one input. -/
def limbsShiftWrong : ChangeSpec := { name := "limbsShift", fn := fun _ => fun
  | [d1, d2] => { results := [.lit (.bool false)], args := [d1, d2] }
  | _ => none }
def LimbsShiftWrongFalsely : Prop := limbsShiftRow.holds Try.pinned (OpenSpec.ofChange limbsShiftWrong)

/-- 'balefirelaw02.LimbsBits': WHATEVER THE INPUT: true; the input reads as it did. -/
def limbsBitsSpec : ChangeSpec := { name := "limbsBits", fn := fun _ => fun
  | [d1, d2] => { results := [.lit (.bool true)], args := [d1, d2] }
  | _ => none }
def limbsBitsRow : OpenClaim := { program := "ytdhkkigijcggmaa", sum := "c997dc5da6a5e1c5cd1e0b2e13cf116ec9a77b26f0faa915e8aee63942745af5", func := "balefire/balefirelaw02.LimbsBits", spec := "limbsBits", inPlace := ["math/bits.Add64", "math/bits.Sub64"], apart := false }
def LimbsBitsSaid : Prop := limbsBitsRow.holds Try.pinned (OpenSpec.ofChange limbsBitsSpec)

/-- ITS FALSE NEIGHBOUR: 'it returns false'. Refute it at one input. -/
def limbsBitsWrong : ChangeSpec := { name := "limbsBits", fn := fun _ => fun
  | [d1, d2] => { results := [.lit (.bool false)], args := [d1, d2] }
  | _ => none }
def LimbsBitsWrongFalsely : Prop := limbsBitsRow.holds Try.pinned (OpenSpec.ofChange limbsBitsWrong)

/-- 'balefirelaw02.LimbsOrder': WHATEVER THE INPUT: true; the input reads as it did. -/
def limbsOrderSpec : ChangeSpec := { name := "limbsOrder", fn := fun _ => fun
  | [d] => { results := [.lit (.bool true)], args := [d] }
  | _ => none }
def limbsOrderRow : OpenClaim := { program := "ytdhkkigijcggmaa", sum := "c997dc5da6a5e1c5cd1e0b2e13cf116ec9a77b26f0faa915e8aee63942745af5", func := "balefire/balefirelaw02.LimbsOrder", spec := "limbsOrder", inPlace := ["math/bits.Sub64", "math/bits.Add64"], apart := false }
def LimbsOrderSaid : Prop := limbsOrderRow.holds Try.pinned (OpenSpec.ofChange limbsOrderSpec)

/-- ITS FALSE NEIGHBOUR: 'it returns false'. Refute it at one input. -/
def limbsOrderWrong : ChangeSpec := { name := "limbsOrder", fn := fun _ => fun
  | [d] => { results := [.lit (.bool false)], args := [d] }
  | _ => none }
def LimbsOrderWrongFalsely : Prop := limbsOrderRow.holds Try.pinned (OpenSpec.ofChange limbsOrderWrong)

/-- 'balefirelaw02.LimbsParts': WHATEVER THE INPUT: true; the input reads as it did. -/
def limbsPartsSpec : ChangeSpec := { name := "limbsParts", fn := fun _ => fun
  | [d1, d2] => { results := [.lit (.bool true)], args := [d1, d2] }
  | _ => none }
def limbsPartsRow : OpenClaim := { program := "ytdhkkigijcggmaa", sum := "c997dc5da6a5e1c5cd1e0b2e13cf116ec9a77b26f0faa915e8aee63942745af5", func := "balefire/balefirelaw02.LimbsParts", spec := "limbsParts", inPlace := ["math/bits.Add64", "math/bits.Sub64"], apart := false }
def LimbsPartsSaid : Prop := limbsPartsRow.holds Try.pinned (OpenSpec.ofChange limbsPartsSpec)

/-- ITS FALSE NEIGHBOUR: 'it returns false'. Refute it at one input. -/
def limbsPartsWrong : ChangeSpec := { name := "limbsParts", fn := fun _ => fun
  | [d1, d2] => { results := [.lit (.bool false)], args := [d1, d2] }
  | _ => none }
def LimbsPartsWrongFalsely : Prop := limbsPartsRow.holds Try.pinned (OpenSpec.ofChange limbsPartsWrong)

/- THE SECOND FORM. 'bulk': how many values and letters a reading holds, each counted each time it is reached (what is shared counts as often as it is met; a slice's spare places count too). A statement '..UptoSaid' is the law's where the arguments, and the package variables that the reading takes, are together of bulk at most 1048576: NARROWER than '..Said'. Prove '..Said' where nothing that the law and all that it calls make is longer than what came in: it says more and counts as full. Else prove '..UptoSaid'. A law counts once. -/
mutual
def uptoBulk {H : Type} : DataW H → Nat
  | .lit (.string bytes) => bytes.length + 1
  | .lit _ => 1
  | .nil => 1
  | .ptr d => uptoBulk d + 1
  | .slice elems spare => uptoBulkAll elems + uptoBulkAll spare + 1
  | .agg parts => uptoBulkAll parts + 1
  | .iface _ d => uptoBulk d + 1
  | .map entries => uptoBulkEntries entries + 1
  | .held _ => 1
def uptoBulkAll {H : Type} : List (DataW H) → Nat
  | [] => 0
  | d :: r => uptoBulk d + uptoBulkAll r
def uptoBulkEntries {H : Type} : List (Lit × DataW H) → Nat
  | [] => 0
  | x :: r => uptoBulkEntry x + uptoBulkEntries r
def uptoBulkEntry {H : Type} : Lit × DataW H → Nat
  | (.string bytes, d) => bytes.length + uptoBulk d + 1
  | (_, d) => uptoBulk d + 1
 end
def uptoSmall : (H : Type) → List (DataW H) → Bool := fun _ ds => decide (uptoBulkAll ds ≤ 1048576)
def OpenSpec.upto (s : _root_.Go.ChangeSpec) : _root_.Go.OpenSpec := { _root_.Go.OpenSpec.ofChange s with cond := some uptoSmall }

/-- 'balefirelaw02.LimbsOf', WHERE WHAT IT READS IS OF BULK AT MOST 1048576: true; the input reads as it did. -/
def limbsOfUptoRow : OpenClaim := { program := "ytdhkkigijcggmaa", sum := "c997dc5da6a5e1c5cd1e0b2e13cf116ec9a77b26f0faa915e8aee63942745af5", func := "balefire/balefirelaw02.LimbsOf", spec := "limbsOf", inPlace := ["math/bits.Add64", "math/bits.Sub64"], apart := false, narrowed := true }
def LimbsOfUptoSaid : Prop := limbsOfUptoRow.holds Try.pinned (OpenSpec.upto limbsOfSpec)

/-- 'balefirelaw02.LimbsSums', WHERE WHAT IT READS IS OF BULK AT MOST 1048576: true; the input reads as it did. -/
def limbsSumsUptoRow : OpenClaim := { program := "ytdhkkigijcggmaa", sum := "c997dc5da6a5e1c5cd1e0b2e13cf116ec9a77b26f0faa915e8aee63942745af5", func := "balefire/balefirelaw02.LimbsSums", spec := "limbsSums", inPlace := ["math/bits.Add64", "math/bits.Sub64"], apart := false, narrowed := true }
def LimbsSumsUptoSaid : Prop := limbsSumsUptoRow.holds Try.pinned (OpenSpec.upto limbsSumsSpec)

/-- 'balefirelaw02.LimbsProducts', WHERE WHAT IT READS IS OF BULK AT MOST 1048576: true; the input reads as it did. -/
def limbsProductsUptoRow : OpenClaim := { program := "ytdhkkigijcggmaa", sum := "c997dc5da6a5e1c5cd1e0b2e13cf116ec9a77b26f0faa915e8aee63942745af5", func := "balefire/balefirelaw02.LimbsProducts", spec := "limbsProducts", inPlace := ["math/bits.Add64", "math/bits.Sub64"], apart := false, narrowed := true }
def LimbsProductsUptoSaid : Prop := limbsProductsUptoRow.holds Try.pinned (OpenSpec.upto limbsProductsSpec)

/-- 'balefirelaw02.LimbsShift', WHERE WHAT IT READS IS OF BULK AT MOST 1048576: true; the input reads as it did. -/
def limbsShiftUptoRow : OpenClaim := { program := "ytdhkkigijcggmaa", sum := "c997dc5da6a5e1c5cd1e0b2e13cf116ec9a77b26f0faa915e8aee63942745af5", func := "balefire/balefirelaw02.LimbsShift", spec := "limbsShift", inPlace := ["math/bits.Add64", "math/bits.Sub64"], apart := false, narrowed := true }
def LimbsShiftUptoSaid : Prop := limbsShiftUptoRow.holds Try.pinned (OpenSpec.upto limbsShiftSpec)

/-- 'balefirelaw02.LimbsBits', WHERE WHAT IT READS IS OF BULK AT MOST 1048576: true; the input reads as it did. -/
def limbsBitsUptoRow : OpenClaim := { program := "ytdhkkigijcggmaa", sum := "c997dc5da6a5e1c5cd1e0b2e13cf116ec9a77b26f0faa915e8aee63942745af5", func := "balefire/balefirelaw02.LimbsBits", spec := "limbsBits", inPlace := ["math/bits.Add64", "math/bits.Sub64"], apart := false, narrowed := true }
def LimbsBitsUptoSaid : Prop := limbsBitsUptoRow.holds Try.pinned (OpenSpec.upto limbsBitsSpec)

/-- 'balefirelaw02.LimbsOrder', WHERE WHAT IT READS IS OF BULK AT MOST 1048576: true; the input reads as it did. -/
def limbsOrderUptoRow : OpenClaim := { program := "ytdhkkigijcggmaa", sum := "c997dc5da6a5e1c5cd1e0b2e13cf116ec9a77b26f0faa915e8aee63942745af5", func := "balefire/balefirelaw02.LimbsOrder", spec := "limbsOrder", inPlace := ["math/bits.Sub64", "math/bits.Add64"], apart := false, narrowed := true }
def LimbsOrderUptoSaid : Prop := limbsOrderUptoRow.holds Try.pinned (OpenSpec.upto limbsOrderSpec)

/-- 'balefirelaw02.LimbsParts', WHERE WHAT IT READS IS OF BULK AT MOST 1048576: true; the input reads as it did. -/
def limbsPartsUptoRow : OpenClaim := { program := "ytdhkkigijcggmaa", sum := "c997dc5da6a5e1c5cd1e0b2e13cf116ec9a77b26f0faa915e8aee63942745af5", func := "balefire/balefirelaw02.LimbsParts", spec := "limbsParts", inPlace := ["math/bits.Add64", "math/bits.Sub64"], apart := false, narrowed := true }
def LimbsPartsUptoSaid : Prop := limbsPartsUptoRow.holds Try.pinned (OpenSpec.upto limbsPartsSpec)

end Rows
end Go.Proofs.Ytdhkkigijcggmaa
