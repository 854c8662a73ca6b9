/- Layer 17's reference: Rename -/
import Derived.Test.YtidhlbhfhfonoaaGreatDoorJZXG18
namespace Go.Proofs.YtidhlbhfhfonoaaGreatDoor
open Go.ChangeShapes Go.WideShapes Go.ChangeAt Go.RowKit
end Go.Proofs.YtidhlbhfhfonoaaGreatDoor
