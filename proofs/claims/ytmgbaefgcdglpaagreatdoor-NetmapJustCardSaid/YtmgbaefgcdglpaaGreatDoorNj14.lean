/- Words that the print of the kit writes, cut to what is used. -/
import Derived.Test.YtmgbaefgcdglpaaGreatDoorNj0
section
namespace Go.Proofs.YtmgbaefgcdglpaaGreatDoorW.PrintWords
open Go.RowKit
section
variable {P : Program} {ops : Array Oper} {rest : List Oper} {o : Oper} {a : Act} {Q : Exit → Act → World → Prop} {W : World}
end
end Go.Proofs.YtmgbaefgcdglpaaGreatDoorW.PrintWords
end
