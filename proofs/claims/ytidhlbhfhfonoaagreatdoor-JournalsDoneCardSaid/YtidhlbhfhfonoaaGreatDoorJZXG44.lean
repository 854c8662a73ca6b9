/- Layer 17: a disk, the reference's one, and a book, that lie apart; Layer 17: what is looked at of a disk and of the reference's one -/
import Derived.Test.YtidhlbhfhfonoaaGreatDoorJZXG35
import Derived.Test.YtidhlbhfhfonoaaGreatDoorJZXG39
import Derived.Test.YtidhlbhfhfonoaaGreatDoorJZXG36
import Derived.Test.YtidhlbhfhfonoaaGreatDoorJZXG12
import Derived.Test.YtidhlbhfhfonoaaGreatDoorJZXG42
import Derived.Test.YtidhlbhfhfonoaaGreatDoorJZXG43
namespace Go.Proofs.YtidhlbhfhfonoaaGreatDoor
open Go.ChangeShapes Go.WideShapes Go.ChangeAt Go.RowKit
def Kept (K : Nat → Prop) (w w' : World) : Prop := w.heap.size ≤ w'.heap.size ∧ ∀ g, K g → w'.heap[g]? = w.heap[g]?
section
variable {K : Nat → Prop} {w w' : World} {C D E B q : Nat} {M : Dm} {R : Rf} {P : Program} {f : FuncId} {args : Array Value}
end
theorem Twin.block {w w' : World} {base : Nat} {v : Value} {l : List Nat} (h : Twin w base v l) (hb : ∀ g, v.ownBlock = some g → w'.heap[g]? = w.heap[g]?) : Twin w' base v l := by
  obtain ⟨g, o, cap, rfl, h0⟩ := h
  exact ⟨g, o, cap, rfl, OwnV.block h0 fun g' hg' => hb g' hg'⟩
theorem Twin.down {w : World} {base base' : Nat} {v : Value} {l : List Nat} (h : Twin w base v l) (hb : base' ≤ base) : Twin w base' v l := by
  obtain ⟨g, o, cap, rfl, h0⟩ := h
  exact ⟨g, o, cap, rfl, Own.base h0 hb⟩
theorem bstr_num {l : List Nat} (h : Bytes l) : num8 (bstr l) = l := by
  unfold num8 bstr
  simp only [List.map_map]
  conv => rhs; rw [← List.map_id l]
  exact List.map_congr_left fun x hx => by
    have := h x hx
    simp [Nat.mod_eq_of_lt this]
/-! ### How many rows there are -/
theorem few_create (R : Rf) (s : ByteArray) : (R.create s).1.rows.length ≤ R.rows.length + 1 := by unfold Rf.create; (repeat' split) <;> simp
theorem few_remove (R : Rf) (s : ByteArray) : (R.remove s).1.rows.length ≤ R.rows.length + 1 := by unfold Rf.remove; split <;> simp
theorem few_append (R : Rf) (s b : ByteArray) : (R.append s b).1.rows.length ≤ R.rows.length + 1 := by unfold Rf.append; (repeat' split) <;> simp
theorem few_sync (R : Rf) (s : ByteArray) : (R.sync s).1.rows.length ≤ R.rows.length + 1 := by unfold Rf.sync; split <;> simp
theorem few_fail {R : Rf} (ok : RfOk R) (keep : Nat) (names : Bool) : (R.fail keep names).rows.length ≤ 64 := by
  unfold Rf.fail Rf.cuts
  simp only [List.length_map]
  cases names
  · exact ok.sl
  · exact ok.nl
end Go.Proofs.YtidhlbhfhfonoaaGreatDoor
namespace Go.Proofs.YtidhlbhfhfonoaaGreatDoor
open Go.ChangeShapes Go.WideShapes Go.ChangeAt Go.RowKit
section
variable {K : Nat → Prop} {w : World} {C D E B q : Nat} {M : Dm} {R : Rf}
end
end Go.Proofs.YtidhlbhfhfonoaaGreatDoor
