/- Words that the print of the kit writes, cut to what is used. -/
import Derived.Test.YtmgbaefgcdglpaaGreatDoorNj1
import Derived.Test.YtmgbaefgcdglpaaGreatDoorNj0
section
namespace Go.Proofs.YtmgbaefgcdglpaaGreatDoorW.PrintLast
open Go.Proofs.YtmgbaefgcdglpaaGreatDoorW.PrintWords (Aside0)
section
variable {md : Region.Mode} {ops : Array Oper} {T : Bool × List (List Nat × List Nat)} {l l' li lj lk : Array Bool} {ds : List Nat} {i j k : Nat}
end
end Go.Proofs.YtmgbaefgcdglpaaGreatDoorW.PrintLast
end
