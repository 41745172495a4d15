/- acl.must: it returns where it holds, and panics with the package's own value where it does not; the world stays. -/
import Derived.Test.YtglnnlpkhjijhaaGreatDoorProg
import Derived.WalkKit
import Derived.WalkLawsBesides
import Derived.KernelRfl
namespace Go.Proofs.YtglnnlpkhjijhaaGreatDoor.Acl
open Go.RowKit

/-- What 'panic(wrong{})' throws. -/
def wrongV : Value := .iface 79 (.agg #[])
theorem must_yes (w : World) : Calls Tryz.prog 45 #[.bool true] w fun e w' => e = .returned (.tuple #[]) ∧ w = w' := by
  go_enter Tryz.func45, Tryz.ntmps45
  go_wp2
  go_end0
  exact ⟨rfl, rfl⟩
theorem must_no (w : World) : Calls Tryz.prog 45 #[.bool false] w fun e w' => e = .panicked [{ v := wrongV, recovered := false }] ∧ w = w' := by
  have hu := Tryz.underlying79
  go_enter Tryz.func45, Tryz.ntmps45
  go_wp2
  exact ⟨rfl, rfl, rfl⟩
end Go.Proofs.YtglnnlpkhjijhaaGreatDoor.Acl
