/- Layer 21 (views) -/
import Derived.Test.YtdpkpcbikbbcbaaGreatBZWG01
import Derived.WalkLawsBesides
import Derived.Deep.QuietTactic
import Derived.BigQuiet
import Derived.Outline
import Derived.Test.YtdpkpcbikbbcbaaGreatRows
namespace Go.Proofs.YtdpkpcbikbbcbaaGreat
open Go.ChangeShapes Go.WideShapes Go.ChangeAt Go.RowKit
def someS (f : Int) : Int := if f < 0 ∨ 2 < f then 0 else f + 1
theorem some_any (f : Int) (w : World) : Calls Tryz.prog 13 #[.int .i64 f] w fun e w' => e = .returned (.int .i64 (someS f)) ∧ w = w' := by
 unfold someS
 by_cases h : f < 0 ∨ 2 < f
 ·rw [if_pos h]
  rcases h with h | h
  all_goals
   go_enter Tryz.func13, Tryz.ntmps13
   go_wp2
   go_ret
   exact ⟨rfl, rfl⟩
 ·rw [if_neg h]; have h1 : 0 ≤ f := by omega
  have h2 : f ≤ 2 := by omega
  clear h
  go_enter Tryz.func13, Tryz.ntmps13
  go_wp2
  go_ret
  exact ⟨rfl, rfl⟩
end Go.Proofs.YtdpkpcbikbbcbaaGreat
