/-
  No cell of these rows narrows 'for every input' (looked for: loops, veiled, ifaces, maps, wideKeys, modest, calm, conditions, laid).
  DERIVED. THE GIVEN ROWS OF THIS SEAT. 4 by the template 'for every input the law returns true; each argument reads behind the call as it read before'; 0 by the template 'total and deterministic' (their statements: YtdpkpcbikbbcbaaGreatTotals.lean).
  GIVEN WITH THE SEED: the statements are not yours to turn. If you find one false, say at which input.
  Laid BY PROGRAM, IN A SANDBOX (cutbox-rows.mjs): the forced cells as the released guide's own fill.sh prints them over the translation e683f2c419e503e1… (all of the seat's roots in one cut). By AI agents, Wed Nov 11 2026. No macro, syntax, notation, axiom, sorry.
-/
import Derived.Test.YtdpkpcbikbbcbaaGreatChecked
import GoSem.Claim
import GoSem.ClaimJoined
import GoSem.ClaimMapViews
import Derived.JoinedTies
import Derived.KernelRfl
namespace Go.Proofs.YtdpkpcbikbbcbaaGreat
/- THE CELL 'sum', in the pinned program and in every row, IS THE sha256 OF THE DUMP (.gsa) THAT YtdpkpcbikbbcbaaGreatProg.lean LOADS. Nothing in Lean hashes anything: it is a label: what it is worth is what the hold of that sum in a sandbox is worth. -/
noncomputable def Tryz.pinned : Pinned := { name := "ytdpkpcbikbbcbaagreat", sum := "e683f2c419e503e14795da6b32e34e7f4c6a68acc69f287a2a54fd0139f24e28", checked := Tryz.checked }
namespace Rows
def none {H : Type} : Left H := { results := [], args := [] }

/-- 'balefirelaw22.BallotsFar': WHATEVER THE INPUT: true; the input reads as it did. -/
def ballotsFarSpec : ChangeSpec := { name := "ballotsFar", fn := fun _ => fun
  | [d1, d2] => { results := [.lit (.bool true)], args := [d1, d2] }
  | _ => none }
def ballotsFarRow : OpenClaim := { program := "ytdpkpcbikbbcbaagreat", sum := "e683f2c419e503e14795da6b32e34e7f4c6a68acc69f287a2a54fd0139f24e28", func := "balefire/balefirelaw22.BallotsFar", spec := "ballotsFar", inPlace := ["math/bits.Sub64", "math/bits.Add64"], unfollowed := true, recurses := true, named := ["math/bits.divideError", "math/bits.overflowError"], plainKeys := false, apart := false }
def BallotsFarSaid : Prop := ballotsFarRow.holds Tryz.pinned (OpenSpec.ofChange ballotsFarSpec)

/-- ITS FALSE NEIGHBOUR: 'it returns false'. Refute it at one input. -/
def ballotsFarWrong : ChangeSpec := { name := "ballotsFar", fn := fun _ => fun
  | [d1, d2] => { results := [.lit (.bool false)], args := [d1, d2] }
  | _ => none }
def BallotsFarWrongFalsely : Prop := ballotsFarRow.holds Tryz.pinned (OpenSpec.ofChange ballotsFarWrong)

/-- 'balefirelaw22.BallotsNone': WHATEVER THE INPUT: true; the input reads as it did. -/
def ballotsNoneSpec : ChangeSpec := { name := "ballotsNone", fn := fun _ => fun
  | [d] => { results := [.lit (.bool true)], args := [d] }
  | _ => none }
def ballotsNoneRow : OpenClaim := { program := "ytdpkpcbikbbcbaagreat", sum := "e683f2c419e503e14795da6b32e34e7f4c6a68acc69f287a2a54fd0139f24e28", func := "balefire/balefirelaw22.BallotsNone", spec := "ballotsNone", inPlace := ["math/bits.Sub64", "math/bits.Add64"], unfollowed := true, recurses := true, named := ["math/bits.divideError", "math/bits.overflowError"], plainKeys := false, apart := false }
def BallotsNoneSaid : Prop := ballotsNoneRow.holds Tryz.pinned (OpenSpec.ofChange ballotsNoneSpec)

/-- ITS FALSE NEIGHBOUR: 'it returns false'. Refute it at one input. -/
def ballotsNoneWrong : ChangeSpec := { name := "ballotsNone", fn := fun _ => fun
  | [d] => { results := [.lit (.bool false)], args := [d] }
  | _ => none }
def BallotsNoneWrongFalsely : Prop := ballotsNoneRow.holds Tryz.pinned (OpenSpec.ofChange ballotsNoneWrong)

/-- 'balefirelaw22.BallotsOrder': WHATEVER THE INPUT: true; the input reads as it did. -/
def ballotsOrderSpec : ChangeSpec := { name := "ballotsOrder", fn := fun _ => fun
  | [d1, d2] => { results := [.lit (.bool true)], args := [d1, d2] }
  | _ => none }
def ballotsOrderRow : OpenClaim := { program := "ytdpkpcbikbbcbaagreat", sum := "e683f2c419e503e14795da6b32e34e7f4c6a68acc69f287a2a54fd0139f24e28", func := "balefire/balefirelaw22.BallotsOrder", spec := "ballotsOrder", inPlace := ["math/bits.Sub64", "math/bits.Add64"], unfollowed := true, recurses := true, named := ["math/bits.divideError", "math/bits.overflowError"], plainKeys := false, apart := false }
def BallotsOrderSaid : Prop := ballotsOrderRow.holds Tryz.pinned (OpenSpec.ofChange ballotsOrderSpec)

/-- ITS FALSE NEIGHBOUR: 'it returns false'. Refute it at one input. -/
def ballotsOrderWrong : ChangeSpec := { name := "ballotsOrder", fn := fun _ => fun
  | [d1, d2] => { results := [.lit (.bool false)], args := [d1, d2] }
  | _ => none }
def BallotsOrderWrongFalsely : Prop := ballotsOrderRow.holds Tryz.pinned (OpenSpec.ofChange ballotsOrderWrong)

/-- 'balefirelaw22.BallotsOne': WHATEVER THE INPUT: true; the input reads as it did. -/
def ballotsOneSpec : ChangeSpec := { name := "ballotsOne", fn := fun _ => fun
  | [d1, d2, d3] => { results := [.lit (.bool true)], args := [d1, d2, d3] }
  | _ => none }
def ballotsOneRow : OpenClaim := { program := "ytdpkpcbikbbcbaagreat", sum := "e683f2c419e503e14795da6b32e34e7f4c6a68acc69f287a2a54fd0139f24e28", func := "balefire/balefirelaw22.BallotsOne", spec := "ballotsOne", inPlace := ["math/bits.Sub64", "math/bits.Add64"], unfollowed := true, recurses := true, named := ["math/bits.divideError", "math/bits.overflowError"], plainKeys := false, apart := false }
def BallotsOneSaid : Prop := ballotsOneRow.holds Tryz.pinned (OpenSpec.ofChange ballotsOneSpec)

/-- ITS FALSE NEIGHBOUR: 'it returns false'. Refute it at one input. -/
def ballotsOneWrong : ChangeSpec := { name := "ballotsOne", fn := fun _ => fun
  | [d1, d2, d3] => { results := [.lit (.bool false)], args := [d1, d2, d3] }
  | _ => none }
def BallotsOneWrongFalsely : Prop := ballotsOneRow.holds Tryz.pinned (OpenSpec.ofChange ballotsOneWrong)

/- THE SECOND FORM. 'bulk': how many values and letters a reading holds, each counted each time it is reached (what is shared counts as often as it is met; a slice's spare places count too). A statement '..UptoSaid' is the law's where the arguments, and the package variables that the reading takes, are together of bulk at most 1048576: NARROWER than '..Said'. Prove '..Said' where nothing that the law and all that it calls make is longer than what came in: it says more and counts as full. Else prove '..UptoSaid'. A law counts once. -/
mutual
def uptoBulk {H : Type} : DataW H → Nat
  | .lit (.string bytes) => bytes.length + 1
  | .lit _ => 1
  | .nil => 1
  | .ptr d => uptoBulk d + 1
  | .slice elems spare => uptoBulkAll elems + uptoBulkAll spare + 1
  | .agg parts => uptoBulkAll parts + 1
  | .iface _ d => uptoBulk d + 1
  | .map entries => uptoBulkEntries entries + 1
  | .held _ => 1
def uptoBulkAll {H : Type} : List (DataW H) → Nat
  | [] => 0
  | d :: r => uptoBulk d + uptoBulkAll r
def uptoBulkEntries {H : Type} : List (Lit × DataW H) → Nat
  | [] => 0
  | x :: r => uptoBulkEntry x + uptoBulkEntries r
def uptoBulkEntry {H : Type} : Lit × DataW H → Nat
  | (.string bytes, d) => bytes.length + uptoBulk d + 1
  | (_, d) => uptoBulk d + 1
 end
def uptoSmall : (H : Type) → List (DataW H) → Bool := fun _ ds => decide (uptoBulkAll ds ≤ 1048576)
def OpenSpec.upto (s : _root_.Go.ChangeSpec) : _root_.Go.OpenSpec := { _root_.Go.OpenSpec.ofChange s with cond := some uptoSmall }

/-- 'balefirelaw22.BallotsFar', WHERE WHAT IT READS IS OF BULK AT MOST 1048576: true; the input reads as it did. -/
def ballotsFarUptoRow : OpenClaim := { program := "ytdpkpcbikbbcbaagreat", sum := "e683f2c419e503e14795da6b32e34e7f4c6a68acc69f287a2a54fd0139f24e28", func := "balefire/balefirelaw22.BallotsFar", spec := "ballotsFar", inPlace := ["math/bits.Sub64", "math/bits.Add64"], unfollowed := true, recurses := true, named := ["math/bits.divideError", "math/bits.overflowError"], plainKeys := false, apart := false, narrowed := true }
def BallotsFarUptoSaid : Prop := ballotsFarUptoRow.holds Tryz.pinned (OpenSpec.upto ballotsFarSpec)

/-- 'balefirelaw22.BallotsNone', WHERE WHAT IT READS IS OF BULK AT MOST 1048576: true; the input reads as it did. -/
def ballotsNoneUptoRow : OpenClaim := { program := "ytdpkpcbikbbcbaagreat", sum := "e683f2c419e503e14795da6b32e34e7f4c6a68acc69f287a2a54fd0139f24e28", func := "balefire/balefirelaw22.BallotsNone", spec := "ballotsNone", inPlace := ["math/bits.Sub64", "math/bits.Add64"], unfollowed := true, recurses := true, named := ["math/bits.divideError", "math/bits.overflowError"], plainKeys := false, apart := false, narrowed := true }
def BallotsNoneUptoSaid : Prop := ballotsNoneUptoRow.holds Tryz.pinned (OpenSpec.upto ballotsNoneSpec)

/-- 'balefirelaw22.BallotsOrder', WHERE WHAT IT READS IS OF BULK AT MOST 1048576: true; the input reads as it did. -/
def ballotsOrderUptoRow : OpenClaim := { program := "ytdpkpcbikbbcbaagreat", sum := "e683f2c419e503e14795da6b32e34e7f4c6a68acc69f287a2a54fd0139f24e28", func := "balefire/balefirelaw22.BallotsOrder", spec := "ballotsOrder", inPlace := ["math/bits.Sub64", "math/bits.Add64"], unfollowed := true, recurses := true, named := ["math/bits.divideError", "math/bits.overflowError"], plainKeys := false, apart := false, narrowed := true }
def BallotsOrderUptoSaid : Prop := ballotsOrderUptoRow.holds Tryz.pinned (OpenSpec.upto ballotsOrderSpec)

/-- 'balefirelaw22.BallotsOne', WHERE WHAT IT READS IS OF BULK AT MOST 1048576: true; the input reads as it did. -/
def ballotsOneUptoRow : OpenClaim := { program := "ytdpkpcbikbbcbaagreat", sum := "e683f2c419e503e14795da6b32e34e7f4c6a68acc69f287a2a54fd0139f24e28", func := "balefire/balefirelaw22.BallotsOne", spec := "ballotsOne", inPlace := ["math/bits.Sub64", "math/bits.Add64"], unfollowed := true, recurses := true, named := ["math/bits.divideError", "math/bits.overflowError"], plainKeys := false, apart := false, narrowed := true }
def BallotsOneUptoSaid : Prop := ballotsOneUptoRow.holds Tryz.pinned (OpenSpec.upto ballotsOneSpec)

end Rows
end Go.Proofs.YtdpkpcbikbbcbaaGreat
