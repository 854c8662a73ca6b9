/- Arguments with slices in them, opened: slices of bytes, arrays of two; how long they are at most (the reach) -/
import Derived.Test.YtpoocnkflmimdaaLSWG03
import Derived.SizedLaws
namespace Go.Proofs.Ytpoocnkflmimdaa
open Go.ChangeShapes Go.WideShapes Go.ChangeAt Go.RowKit Go.Deep

section
variable {H : Type} {enc : TypeId × Value → H} {P : Program} {w : World}
end
end Go.Proofs.Ytpoocnkflmimdaa
