/- acl.Parse, as the callers' print wants it. -/
import Derived.Test.YthnpiimiimiijaaGreatDoorKk10
section
namespace Go.Proofs.YthnpiimiimiijaaGreatDoor.PA
open Go.RowKit Go.Proofs.YthnpiimiimiijaaGreatDoorW.PrintWords Go.Proofs.YthnpiimiimiijaaGreatDoorW.PrintLast Go.Proofs.YthnpiimiimiijaaGreatDoorW.PrintMore
def acl_Parse.f (a0 : ByteArray) : Option (List S135 × Int) := some (Acl.parseOf a0.data.toList)
theorem acl_Parse.calls (a0 : ByteArray) (r1 : List S135) (r2 : Int) (w : World) (hx : LaidW w) (h : acl_Parse.f a0 = some (r1, r2)) :
  Calls Tryz.prog 51 #[.string a0] w fun e w' => ∃ v0_ : Value, e = .returned (.tuple #[v0_, .int .i64 r2]) ∧ Kd.R k135 135 w' w.heap.size (fun _ => True) v0_ r1 ∧ Below w.heap.size w w' := by
 refine (Acl.parse_any a0.data.toList w hx).mono ?_
 rintro e w' ⟨hb, v, he, hr⟩
 have e2 : Acl.parseOf a0.data.toList = (r1, r2) := Option.some.inj h
 rw [e2] at he hr
 exact ⟨v, he, hr, hb⟩
end Go.Proofs.YthnpiimiimiijaaGreatDoor.PA
end
