/- Book: lists of one kind are kept, one by one; Book: lists of Bytes alone are kept, and lie apart -/
import Derived.Test.YtidhlbhfhfonoaaGreatDoorJZXG04
import Derived.Test.YtidhlbhfhfonoaaGreatDoorJZXG38
namespace Go.Proofs.YtidhlbhfhfonoaaGreatDoor
open Go.ChangeShapes Go.WideShapes Go.ChangeAt Go.RowKit
section
variable {E H : TypeId} {s f : Nat} {w w' : World} {base B k : Nat} {F L : Nat → Value} {N : Nat → Nat} {X : Nat → List Value}
end
section
variable {E H : TypeId} {s f : Nat} {w w' : World} {base B k : Nat} {S : Nat → Prop}
end
end Go.Proofs.YtidhlbhfhfonoaaGreatDoor
namespace Go.Proofs.YtidhlbhfhfonoaaGreatDoor
open Go.ChangeShapes Go.WideShapes Go.ChangeAt Go.RowKit
end Go.Proofs.YtidhlbhfhfonoaaGreatDoor
