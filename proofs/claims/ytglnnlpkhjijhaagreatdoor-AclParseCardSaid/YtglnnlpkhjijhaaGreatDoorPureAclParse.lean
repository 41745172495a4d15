/- AclParse in plain words: what the walk computes is true for all texts. -/
import Derived.Test.YtglnnlpkhjijhaaGreatDoorDocRef
import Derived.Test.YtglnnlpkhjijhaaGreatDoorPAyAclParse
import Derived.Test.YtglnnlpkhjijhaaGreatDoorPureWorks
namespace Go.Proofs.YtglnnlpkhjijhaaGreatDoor.PA
open Go.RowKit Go.Proofs.YtglnnlpkhjijhaaGreatDoorW.PrintWords Go.Proofs.YtglnnlpkhjijhaaGreatDoorW.PrintLast Go.Proofs.YtglnnlpkhjijhaaGreatDoorW.PrintMore

theorem toB_back (a : ByteArray) : toB a.data.toList = a := by unfold toB; rfl
theorem AclParse_law (a0 : ByteArray) : causewaylaw20_AclParse.f 6000 a0 = some true := by
  have e := ref_Parse_eq a0.data.toList 6000 (by omega)
  rw [toB_back] at e
  unfold causewaylaw20_AclParse.f acl_Parse.f
  simp only [Option.bind_some]
  rw [e]
  simp only [Option.bind_some]
  rw [same_refl _ (by have := parseOf_few a0.data.toList; omega) 6000 (by have := parseOf_few a0.data.toList; omega)]
  simp only [Option.bind_some, if_true]
  rw [works_true 6000 (by omega)]
  rfl
end Go.Proofs.YtglnnlpkhjijhaaGreatDoor.PA
