/- AclBack in plain words: what the walk computes is true for all rules. -/
import Derived.Test.YtglnnlpkhjijhaaGreatDoorPureBack
import Derived.Test.YtglnnlpkhjijhaaGreatDoorPAyAclBack
import Derived.Test.YtglnnlpkhjijhaaGreatDoorPureWorks
import Derived.Test.YtglnnlpkhjijhaaGreatDoorArgs
set_option linter.unusedVariables false
set_option linter.unusedSimpArgs false
namespace Go.Proofs.YtglnnlpkhjijhaaGreatDoor.PA
open Go.RowKit Go.Proofs.YtglnnlpkhjijhaaGreatDoor.Acl Go.Proofs.YtglnnlpkhjijhaaGreatDoorW.PrintWords Go.Proofs.YtglnnlpkhjijhaaGreatDoorW.PrintLast Go.Proofs.YtglnnlpkhjijhaaGreatDoorW.PrintMore

theorem is64_wf {x : Int} (h : (Lit.int .i64 x).wf = true) : Is64 x := by
  have e1 : IntKind.i64.min = -9223372036854775808 := rfl
  have e2 : IntKind.i64.max = 9223372036854775807 := rfl
  simp only [Lit.wf, Bool.and_eq_true, decide_eq_true_eq, e1, e2] at h
  exact h
theorem rule64_wf {s : S36} (h : Wf s) : Rule64 s := ⟨is64_wf h.1, is64_wf h.2.1, is64_wf h.2.2.1, is64_wf h.2.2.2⟩
theorem parse_toB (r : List UInt8) : acl_Parse.f (toB r) = some (Acl.parseOf r) := rfl
theorem AclBack_law (l : List S36) (hl : l.length < 3518437208883) (hw : ∀ s ∈ l, Wf s) : causewaylaw20_AclBack.f (l.length + 400) l = some true := by
  have hr : ∀ s ∈ l, Rule64 s := fun s hs => rule64_wf (hw s hs)
  unfold causewaylaw20_AclBack.f
  rw [works_true _ (by omega)]
  simp only [Option.bind_some, if_true]
  rw [acl_Text_eq l hr]
  simp only [Option.bind_some]
  by_cases h32 : 32 < l.length
  · have e : textB l = ([], 5) := by unfold textB; rw [if_pos h32]
    rw [e, if_neg (show ¬ (([], 5) : List UInt8 × Int).2 = 0 by decide), if_pos (show (toB (([], 5) : List UInt8 × Int).1).toList = [] from toB_list []), if_pos rfl]
  · by_cases hall : l.all mayB = true
    · by_cases hlen : 1024 < (l.flatMap lineB).length
      · have e : textB l = ([], 5) := by unfold textB finB; rw [if_neg h32, if_pos hall, if_pos hlen]
        rw [e, if_neg (show ¬ (([], 5) : List UInt8 × Int).2 = 0 by decide), if_pos (show (toB (([], 5) : List UInt8 × Int).1).toList = [] from toB_list []), if_pos rfl]
      · have e : textB l = (l.flatMap lineB, 0) := by unfold textB finB; rw [if_neg h32, if_pos hall, if_neg hlen]
        rw [e]
        simp only [if_true]
        rw [parse_toB, parse_back l hall (by omega) (by omega)]
        simp only [Option.bind_some, if_true]
        rw [same_refl l (by omega) _ (by omega)]
        simp only [Option.bind_some, if_true]
        rw [toB_size, decide_eq_true (by omega)]
    · have e : textB l = ([], 2) := by unfold textB; rw [if_neg h32, if_neg hall]
      rw [e, if_neg (show ¬ (([], 2) : List UInt8 × Int).2 = 0 by decide), if_pos (show (toB (([], 2) : List UInt8 × Int).1).toList = [] from toB_list []), if_neg (by decide)]
      rfl
end Go.Proofs.YtglnnlpkhjijhaaGreatDoor.PA
