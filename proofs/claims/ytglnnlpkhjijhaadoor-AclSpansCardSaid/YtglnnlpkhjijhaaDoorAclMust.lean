/- acl.must: it returns where it holds, and panics with the package's own value where it does not; the world stays. -/
import Derived.Test.YtglnnlpkhjijhaaDoorProg
import Derived.WalkKit
import Derived.WalkLawsBesides
import Derived.KernelRfl
namespace Go.Proofs.YtglnnlpkhjijhaaDoor.Acl
open Go.RowKit

/-- What 'panic(wrong{})' throws. -/
def wrongV : Value := .iface 80 (.agg #[])
theorem must_yes (w : World) : Calls Tryd.prog 44 #[.bool true] w fun e w' => e = .returned (.tuple #[]) ∧ w = w' := by
  go_enter Tryd.func44, Tryd.ntmps44
  go_wp2
  go_end0
  exact ⟨rfl, rfl⟩
theorem must_no (w : World) : Calls Tryd.prog 44 #[.bool false] w fun e w' => e = .panicked [{ v := wrongV, recovered := false }] ∧ w = w' := by
  have hu := Tryd.underlying80
  go_enter Tryd.func44, Tryd.ntmps44
  go_wp2
  exact ⟨rfl, rfl, rfl⟩
end Go.Proofs.YtglnnlpkhjijhaaDoor.Acl
