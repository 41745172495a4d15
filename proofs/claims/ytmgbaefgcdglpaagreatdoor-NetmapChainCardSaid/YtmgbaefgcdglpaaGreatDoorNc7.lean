/- Words that the print of the kit writes, cut to what is used. -/
import Derived.Test.YtmgbaefgcdglpaaGreatDoorNc1
import Derived.Test.YtmgbaefgcdglpaaGreatDoorNc0
section
namespace Go.Proofs.YtmgbaefgcdglpaaGreatDoorW.PrintLast
def up (b : Nat → Bool) (i : Nat) : Nat → Bool := fun j => if j = i then true else b j
section
variable {P : Program} {ops : Array Oper} {Q : Exit → Act → World → Prop} {md : Region.Mode} {T : Bool × List (List Nat × List Nat)} {B : List Nat} {O : List Nat} {b : Nat → Bool} {i j n : Nat}
end
end Go.Proofs.YtmgbaefgcdglpaaGreatDoorW.PrintLast
end
