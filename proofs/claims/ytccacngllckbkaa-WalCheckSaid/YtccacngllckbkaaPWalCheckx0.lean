-- printed by a program of this session (a turned copy of the kit's print program)
import Derived.Test.YtccacngllckbkaaProg
import Derived.Below
import Derived.Deep.Draws
import Derived.Deep.AppendLies
import Derived.Maps.AppendAt
import Derived.OwnWalk
import Derived.Laws.BytesArg
import Derived.Laws.MakeOwn
import Derived.Laws.OwnMore
import Derived.Deep.OwnRows
import Derived.Tactics
import Derived.Lib.ConvBytes
import Derived.Laws.Slices
import Derived.WalkKit
import Derived.KernelRfl
import Derived.RowKit3
import Derived.Deep.LoopGhost
import Derived.Deep.QuietTactic
import Derived.BigQuiet
import Derived.WideLaws
import Derived.Deep.DeepCutAuto
import Derived.Deep.CutBlock
import Derived.Deep.RegionHeld3
import Derived.Laws.Rows
import Derived.Lib.AppendStr
import Derived.ArgAppend
import Derived.Laws.IdiomCopy
import Derived.OrdersHeld
import Derived.Laws.BitsLemmas
import Derived.RowKit
import Derived.Test.YtccacngllckbkaaWWords
import Derived.Test.YtccacngllckbkaaWLast
import Derived.Test.YtccacngllckbkaaWTab
import Derived.Test.YtccacngllckbkaaWFour
import Derived.Test.YtccacngllckbkaaWQPut
import Derived.Test.YtccacngllckbkaaWApart
import Derived.Test.YtccacngllckbkaaWArr
import Derived.Test.YtccacngllckbkaaWZeros
import Derived.Test.YtccacngllckbkaaWFoot
import Derived.Test.YtccacngllckbkaaWKept
import Derived.Test.YtccacngllckbkaaWShare
import Derived.Test.YtccacngllckbkaaWN
import Derived.Test.YtccacngllckbkaaWFootNe
import Derived.Test.YtccacngllckbkaaWAt
import Derived.Test.YtccacngllckbkaaWEqStruct
import Derived.Test.YtccacngllckbkaaWRepsOne
import Derived.Test.YtccacngllckbkaaWInv
import Derived.Test.YtccacngllckbkaaWInvWords
import Derived.Test.YtccacngllckbkaaWGuard
import Derived.Test.YtccacngllckbkaaWNEv
import Derived.Test.YtccacngllckbkaaWMore
namespace Go.Proofs.Ytccacngllckbkaa.PWalCheck
open Go.RowKit Go.Proofs.YtccacngllckbkaaW.PrintWords Go.Proofs.YtccacngllckbkaaW.PrintLast Go.Proofs.YtccacngllckbkaaW.PrintMore
attribute [local go_sem] max2_int min2_int max_two min_two max_three min_three max_four min_four   -- for this text's walks alone
set_option linter.unusedVariables false
set_option linter.unusedSimpArgs false



def errW : Option Int → Value
  | none => .nilIface
  | some c => .iface 0 (.int .i64 c)
theorem errW_none : errW none = .nilIface := rfl
theorem errW_some (c : Int) : errW (some c) = .iface 0 (.int .i64 c) := rfl

theorem info5 : (Try.prog.info? 5).map (fun i => (i.zero, i.size, i.bytes)) = some (some (.int .u8 0), 1, 1) := by kernel_rfl
-- the values' own types

end Go.Proofs.Ytccacngllckbkaa.PWalCheck
