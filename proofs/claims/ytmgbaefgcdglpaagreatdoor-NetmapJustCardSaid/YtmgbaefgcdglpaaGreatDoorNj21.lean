/- Words that the print of the kit writes, cut to what is used. -/
import Derived.SizedLaws
import Derived.ChangeSlices
section
namespace Go.Proofs.YtmgbaefgcdglpaaGreatDoorW.PrintWords
open Go.ChangeShapes Go.WideShapes
end Go.Proofs.YtmgbaefgcdglpaaGreatDoorW.PrintWords
end
