/- Words that the print of the kit writes, cut to what is used. -/
import Derived.Test.YtmgbaefgcdglpaaGreatDoorNj12
section
namespace Go.Proofs.YtmgbaefgcdglpaaGreatDoorW.PrintLast
section
variable {P : Program} {ops : Array Oper} {Q : Exit → Act → World → Prop} {md : Region.Mode} {S : World → Prop} {ds : List Nat} {T : Bool × List (List Nat × List Nat)}
end
end Go.Proofs.YtmgbaefgcdglpaaGreatDoorW.PrintLast
end
