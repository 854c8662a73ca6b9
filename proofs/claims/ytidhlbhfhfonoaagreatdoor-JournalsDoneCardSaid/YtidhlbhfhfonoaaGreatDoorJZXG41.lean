/- Arguments with texts in them, opened -/
import Derived.Test.YtidhlbhfhfonoaaGreatDoorJZXG40
import Derived.ChangeMaps5
namespace Go.Proofs.YtidhlbhfhfonoaaGreatDoor
open Go.ChangeShapes Go.WideShapes Go.ChangeAt Go.RowKit Go.Deep
section
variable {H : Type} {enc : TypeId × Value → H} {P : Program} {w : World}
theorem text_of_cell {e : TypeId} {fuel : Nat} {cs : List Value} {x : DataW H × List MemPlace} (he : P.underlying e = some .string) (h : DataW.trod enc P w 0 (fun _ => true) true fuel e cs = some x) (hw : ∀ n ∈ x.1.weights P e, n ≤ reachBytes) :
    ∃ s : ByteArray, cs = [.string s] ∧ s.size ≤ 140737488351232 := by
  obtain ⟨s, h1, rfl, _⟩ := DataW.trod_string he h
  refine ⟨s, h1, ?_⟩
  have := hw s.data.toList.length (by simp [DataW.weights])
  unfold reachBytes at this
  have e : s.data.toList.length = s.size := rfl
  omega
theorem open_text {r : Reach} {b0 : Nat} {t : TypeId} {v : Value} {d : DataW H} {p : List MemPlace} (ht : P.underlying t = some .string) (hv : Value.okWide P w r b0 t v) (h : DataW.Trod enc P w 0 (fun _ => true) true t v d p) (hw : ∀ n ∈ d.weights P t, n ≤ reachBytes) :
    ∃ s : ByteArray, v = .string s ∧ s.size ≤ 140737488351232 := by
  obtain ⟨s, rfl, rfl, rfl, _⟩ := ChangeMaps.open_string ht hv h
  obtain ⟨fuel, hf⟩ := h
  obtain ⟨s', h1, h2⟩ := text_of_cell ht hf hw
  exact ⟨s, rfl, by cases h1; exact h2⟩
end
end Go.Proofs.YtidhlbhfhfonoaaGreatDoor
