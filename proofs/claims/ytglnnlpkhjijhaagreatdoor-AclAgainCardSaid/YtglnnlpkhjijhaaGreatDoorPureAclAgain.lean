/- AclAgain in plain words: what the walk computes is true for all texts. -/
import Derived.Test.YtglnnlpkhjijhaaGreatDoorPureAgain
import Derived.Test.YtglnnlpkhjijhaaGreatDoorPAyAclAgain
import Derived.Test.YtglnnlpkhjijhaaGreatDoorPureWorks
set_option linter.unusedVariables false
set_option linter.unusedSimpArgs false
namespace Go.Proofs.YtglnnlpkhjijhaaGreatDoor.PA
open Go.RowKit Go.Proofs.YtglnnlpkhjijhaaGreatDoor.Acl Go.Proofs.YtglnnlpkhjijhaaGreatDoorW.PrintWords Go.Proofs.YtglnnlpkhjijhaaGreatDoorW.PrintLast Go.Proofs.YtglnnlpkhjijhaaGreatDoorW.PrintMore

theorem parse_toB' (r : List UInt8) : acl_Parse.f (toB r) = some (Acl.parseOf r) := rfl
theorem again_law (r : List UInt8) : causewaylaw20_AclAgain.f 400 (toB r) = some true := by
  unfold causewaylaw20_AclAgain.f
  rw [works_true _ (by omega), parse_toB']
  simp only [Option.bind_some, if_true]
  by_cases he : (Acl.parseOf r).2 = 0
  · rw [if_pos he]
    obtain ⟨l, hl⟩ : ∃ l, Acl.parseOf r = (l, 0) := ⟨(Acl.parseOf r).1, by rw [← he]⟩
    rw [hl]
    obtain ⟨h1, hall, h32, hfew⟩ := parse_short hl
    have hr : ∀ s ∈ l, Rule64 s := fun s hs => rule64_may (List.all_eq_true.1 hall s hs)
    simp only
    rw [acl_Text_eq l hr]
    simp only [Option.bind_some]
    by_cases hlen : 1024 < (l.flatMap lineB).length
    · have e : textB l = ([], 5) := by unfold textB finB; rw [if_neg (by omega), if_pos hall, if_pos hlen]
      rw [e]
      have hs : r.length = 1024 := by omega
      simp [toB_size, hs]
    · have e : textB l = (l.flatMap lineB, 0) := by unfold textB finB; rw [if_neg (by omega), if_pos hall, if_neg hlen]
      rw [e]
      simp only [if_true, toB_size]
      rw [if_neg (by rw [wrapZ (by omega) (by omega)]; omega), parse_toB', parse_back l hall h32 (by omega)]
      simp only [Option.bind_some]
      rw [acl_Text_eq l hr, e]
      simp only [Option.bind_some, if_true]
      rw [same_refl l (by omega) _ (by omega)]
      simp
  · rw [if_neg he, parse_err he]
    rfl
theorem AclAgain_law (a0 : ByteArray) : causewaylaw20_AclAgain.f 400 a0 = some true := again_law a0.data.toList
end Go.Proofs.YtglnnlpkhjijhaaGreatDoor.PA
