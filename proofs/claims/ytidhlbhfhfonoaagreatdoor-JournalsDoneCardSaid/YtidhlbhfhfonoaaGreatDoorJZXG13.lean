/- A region that draws its order, but whose edges leave no choice that matters: ONE walk, in the order of the text; A region that draws its order, walked in an order that I choose -/
import Derived.Deep.RegionHeld3
import Derived.Test.YtidhlbhfhfonoaaGreatDoorJZXG01
namespace Go.Proofs.YtidhlbhfhfonoaaGreatDoor
section
variable {P : Program} {Q : Exit → Act → World → Prop} {S : World → Prop}
/-- The first i have come up. -/
def marks (n i : Nat) : Array Bool := ((List.range n).map fun j => decide (j < i)).toArray
end
end Go.Proofs.YtidhlbhfhfonoaaGreatDoor
namespace Go.Proofs.YtidhlbhfhfonoaaGreatDoor
theorem ite_else {c : Bool} {A B : Prop} (h : c = false) (hb : B) : if c = true then A else B := by
  subst h
  exact hb
section
variable {P : Program} {Q : Exit → Act → World → Prop} {S : World → Prop}
end
end Go.Proofs.YtidhlbhfhfonoaaGreatDoor
