/- Arguments with slices in them, opened -/
import Derived.Test.YtdpkpcbikbbcbaaGreatBZWG03
import Derived.SizedLaws
namespace Go.Proofs.YtdpkpcbikbbcbaaGreat
open Go.ChangeShapes Go.WideShapes Go.ChangeAt Go.RowKit Go.Deep
section
variable {H : Type} {enc : TypeId × Value → H} {P : Program} {w : World}
end
end Go.Proofs.YtdpkpcbikbbcbaaGreat
