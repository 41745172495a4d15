/- Words that the print of the kit writes, cut to what is used. -/
import Derived.Test.YtmgbaefgcdglpaaGreatDoorNj8
section
namespace Go.Proofs.YtmgbaefgcdglpaaGreatDoorW.PrintWords
open Go.RowKit
namespace Kd
section
variable {α : Type} {d : Kd α} {W : World} {g n : Nat} {S ok : Nat → Prop} {A : Option Addr} {ad : Addr} {xs : List α}
end
end Kd
end Go.Proofs.YtmgbaefgcdglpaaGreatDoorW.PrintWords
end
