/- slices.Clip of bytes. -/
import Derived.Test.YtjfejpdeccnlnaaDoorOwn
namespace Go.Proofs.YtjfejpdeccnlnaaDoor
open Go.ChangeShapes Go.WideShapes Go.ChangeAt Go.RowKit

set_option maxRecDepth 20000 in
set_option maxHeartbeats 1500000 in
theorem Clip_any {b : List Nat} {v : Value} (w : World) {B : Nat} (hv : Own w B v b) :
    Calls Tryd.prog 49 #[v] w fun e w' => ∃ v', e = .returned v' ∧ Own w' B v' b ∧ w = w' := by
  obtain ⟨ao, cap, rfl, hc1, hc2, hc3, hc4⟩ := hv.at_
  have HV := Lib.hid hv
  have hc5 : cap ≤ 9223372036854775807 := by unfold maxLen at hc2; omega
  clear hv hc4 hc2 hc3
  go_enter Tryd.func49, Tryd.ntmps49
  go_wp2
  go_ret
  exact ⟨_, rfl, OwnV.clip HV.out, rfl⟩

end Go.Proofs.YtjfejpdeccnlnaaDoor
