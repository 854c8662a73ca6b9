/- slices.Clip of bytes -/
import Derived.Test.YtmijablfjigbhaaGreatDoorSZVG04
set_option maxHeartbeats 1500000
set_option maxRecDepth 20000
namespace Go.Proofs.YtmijablfjigbhaaGreatDoor
open Go.ChangeShapes Go.WideShapes Go.ChangeAt Go.RowKit
theorem Clip_any {b : List Nat} {v : Value} (w : World) {B : Nat} (hv : Own w B v b) :
  Calls Tryz.prog 26 #[v] w fun e w' => ∃ v', e = .returned v' ∧ Own w' B v' b ∧ w = w' := by
 obtain ⟨ao, cap, rfl, hc1, hc2, hc3, hc4⟩ := hv.at_; have HV := jh hv; have hc5 : cap ≤ 9223372036854775807 := by unfold maxLen at hc2; omega
 clear hv hc4 hc2 hc3
 go_enter Tryz.func26, Tryz.ntmps26
 go_wp2
 go_ret
 exact ⟨_, rfl, O1.clip HV.out, rfl⟩
end Go.Proofs.YtmijablfjigbhaaGreatDoor
