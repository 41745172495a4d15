/- acl.must: it returns where it holds, and panics with the package's own value where it does not; the world stays. -/
import Derived.Test.YthnpiimiimiijaaGreatDoorProg
import Derived.WalkKit
import Derived.WalkLawsBesides
import Derived.KernelRfl
namespace Go.Proofs.YthnpiimiimiijaaGreatDoor.Acl
open Go.RowKit

/-- What 'panic(wrong{})' throws. -/
def wrongV : Value := .iface 189 (.agg #[])
theorem must_yes (w : World) : Calls Tryz.prog 134 #[.bool true] w fun e w' => e = .returned (.tuple #[]) ∧ w = w' := by
  go_enter Tryz.func134, Tryz.ntmps134
  go_wp2
  go_end0
  exact ⟨rfl, rfl⟩
theorem must_no (w : World) : Calls Tryz.prog 134 #[.bool false] w fun e w' => e = .panicked [{ v := wrongV, recovered := false }] ∧ w = w' := by
  have hu := Tryz.underlying189
  go_enter Tryz.func134, Tryz.ntmps134
  go_wp2
  exact ⟨rfl, rfl, rfl⟩
end Go.Proofs.YthnpiimiimiijaaGreatDoor.Acl
