/- Arguments with slices in them, opened -/
import Derived.Test.YtpkalgofejjggaaGreatDoorBPBG03
import Derived.SizedLaws
namespace Go.Proofs.YtpkalgofejjggaaGreatDoor
open Go.ChangeShapes Go.WideShapes Go.ChangeAt Go.RowKit Go.Deep
section
variable {H:Type}{enc:TypeId×Value->H}{P:Program}{w:World}
end
end Go.Proofs.YtpkalgofejjggaaGreatDoor
