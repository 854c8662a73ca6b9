/- Arguments with slices in them, opened -/
import Derived.Test.YtmijablfjigbhaaGreatDoorSZVG03
import Derived.SizedLaws
namespace Go.Proofs.YtmijablfjigbhaaGreatDoor
open Go.ChangeShapes Go.WideShapes Go.ChangeAt Go.RowKit Go.Deep
section
variable {H : Type} {enc : TypeId × Value → H} {P : Program} {w : World}
theorem IP {v : Value} {l : List Int} (h : IntsAt w .u8 v l) : ∃ l' : List Nat, J6 .u8 w v l' ∧ jM l' ∧ l'.length = l.length := by
 obtain ⟨ao, cap, rfl, h1, h2, h3, h4, h5⟩ := h; refine ⟨l.map Int.toNat, ?_, ?_, by simp⟩
 ·refine ⟨ao, cap, by simp, by simpa using h1, h2, h3, fun h0 => ?_⟩; rw [List.length_map] at h0; obtain ⟨b, o, hb, _⟩ := h5 0 h0; refine ⟨b, o, hb, fun i x hx => ?_⟩; rw [List.getElem?_map] at hx; obtain ⟨y, hy, rfl⟩ := Option.map_eq_some_iff.1 hx; obtain ⟨hi, hy'⟩ := List.getElem?_eq_some_iff.1 hy; obtain ⟨b', o', hb', hc⟩ := h5 i hi; rw [hb] at hb'
  cases hb'
  rw [hc, hy']; have hw := bounds_u8 (h4 y (List.mem_of_getElem? hy)); rw [Int.toNat_of_nonneg hw.1]
 ·intro x hx; obtain ⟨y, hy, rfl⟩ := List.mem_map.1 hx; have hw := bounds_u8 (h4 y hy); omega
end
end Go.Proofs.YtmijablfjigbhaaGreatDoor
