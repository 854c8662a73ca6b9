/- Layer 22 (ballots) -/
import Derived.Test.YtdpkpcbikbbcbaaGreatBZWG41
import Derived.WalkSpells
namespace Go.Proofs.YtdpkpcbikbbcbaaGreat
open Go.ChangeShapes Go.WideShapes Go.ChangeAt Go.RowKit
theorem Zg (w : World) : Calls Tryz.prog 28 #[.pointer none] w fun e w' => e = .returned (.bool false) ∧ w = w' := by
 go_enter Tryz.func28, Tryz.ntmps28
 go_wp2
 go_ret
 exact ⟨rfl, rfl⟩
theorem JC {b m : Nat} (w : World) (h : w.cell? ⟨b, 20, none⟩ = some (.map (some m))) : Calls Tryz.prog 28 #[.pointer (some ⟨b, 0, none⟩)] w fun e w' => e = .returned (.bool true) ∧ Below w.heap.size w w' := by
 have hm : ∀ W, (binOp .neq 80 (.map (some m)) (.map none)).run Tryz.prog W = .ok (.bool true) W := fun W => run_neq_map_nil W 80 _ _ (some m) Tryz.underlying80
 go_enter Tryz.func28, Tryz.ntmps28
 go_wp2
 go_ret
 exact ⟨rfl, Below.refl _ _⟩
end Go.Proofs.YtdpkpcbikbbcbaaGreat
