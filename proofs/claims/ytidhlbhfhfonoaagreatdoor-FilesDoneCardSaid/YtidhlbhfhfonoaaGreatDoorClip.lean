/- slices.Clip of bytes -/
import Derived.Test.YtidhlbhfhfonoaaGreatDoorOwn
namespace Go.Proofs.YtidhlbhfhfonoaaGreatDoor
open Go.ChangeShapes Go.WideShapes Go.ChangeAt Go.RowKit

set_option maxRecDepth 20000 in
set_option maxHeartbeats 1500000 in
theorem Clip_any {b : List Nat} {v : Value} (w : World) {B : Nat} (hv : Own w B v b) :
    Calls Tryz.prog 113 #[v] w fun e w' => ∃ v', e = .returned v' ∧ Own w' B v' b ∧ w = w' := by
  obtain ⟨ao, cap, rfl, hc1, hc2, hc3, hc4⟩ := hv.at_
  have HV := Lib.hid hv
  have hc5 : cap ≤ 9223372036854775807 := by unfold maxLen at hc2; omega
  clear hv hc4 hc2 hc3
  go_enter Tryz.func113, Tryz.ntmps113
  go_wp2
  go_ret
  exact ⟨_, rfl, OwnV.clip HV.out, rfl⟩

end Go.Proofs.YtidhlbhfhfonoaaGreatDoor
