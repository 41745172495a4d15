/- AclText in plain words: what the walk computes is true for all rules. -/
import Derived.Test.YtglnnlpkhjijhaaGreatDoorPureText
import Derived.Test.YtglnnlpkhjijhaaGreatDoorPAyAclText
import Derived.Test.YtglnnlpkhjijhaaGreatDoorPureWorks
import Derived.Test.YtglnnlpkhjijhaaGreatDoorArgs
set_option linter.unusedVariables false
set_option linter.unusedSimpArgs false
namespace Go.Proofs.YtglnnlpkhjijhaaGreatDoor.PA
open Go.RowKit Go.Proofs.YtglnnlpkhjijhaaGreatDoorW.PrintWords Go.Proofs.YtglnnlpkhjijhaaGreatDoorW.PrintLast Go.Proofs.YtglnnlpkhjijhaaGreatDoorW.PrintMore

theorem is64_of {x : Int} (h : (Lit.int .i64 x).wf = true) : Is64 x := by
  have e1 : IntKind.i64.min = -9223372036854775808 := rfl
  have e2 : IntKind.i64.max = 9223372036854775807 := rfl
  simp only [Lit.wf, Bool.and_eq_true, decide_eq_true_eq, e1, e2] at h
  exact h
theorem rule64_of {s : S36} (h : Wf s) : Rule64 s := ⟨is64_of h.1, is64_of h.2.1, is64_of h.2.2.1, is64_of h.2.2.2⟩
theorem AclText_law (l : List S36) (hl : l.length < 3518437208883) (hw : ∀ s ∈ l, Wf s) : causewaylaw20_AclText.f (l.length + 400) l = some true := by
  have hr : ∀ s ∈ l, Rule64 s := fun s hs => rule64_of (hw s hs)
  unfold causewaylaw20_AclText.f
  rw [if_pos (by simpa using hl)]
  simp only [Option.bind_some, List.nil_append]
  rw [acl_Text_eq l hr, ref_Text_eq l hr _ (by omega)]
  simp only [Option.bind_some, if_true]
  rw [same_refl l (by omega) _ (by omega)]
  simp only [Option.bind_some, if_true]
  rw [works_true _ (by omega)]
  rfl
end Go.Proofs.YtglnnlpkhjijhaaGreatDoor.PA
