-- Laid by hybrid.py, a program of this session's: the kit's printer over this seat, with functions proved by hand beside it.
import Derived.Test.YtjmlahdnbedkcaaProg
import Derived.Below
import Derived.Deep.Draws
import Derived.Deep.AppendLies
import Derived.Maps.AppendAt
import Derived.OwnWalk
import Derived.Laws.BytesArg
import Derived.Laws.MakeOwn
import Derived.Laws.OwnMore
import Derived.Deep.OwnRows
import Derived.Tactics
import Derived.Lib.ConvBytes
import Derived.Laws.Slices
import Derived.WalkKit
import Derived.KernelRfl
import Derived.RowKit3
import Derived.Deep.LoopGhost
import Derived.Deep.QuietTactic
import Derived.BigQuiet
import Derived.WideLaws
import Derived.Deep.DeepCutAuto
import Derived.Deep.CutBlock
import Derived.Deep.RegionHeld3
import Derived.Laws.Rows
import Derived.Lib.AppendStr
import Derived.ArgAppend
import Derived.Laws.IdiomCopy
import Derived.OrdersHeld
import Derived.Laws.BitsLemmas
import Derived.RowKit
import Derived.Test.YtjmlahdnbedkcaaWWords
import Derived.Test.YtjmlahdnbedkcaaWLast
import Derived.Test.YtjmlahdnbedkcaaWTab
import Derived.Test.YtjmlahdnbedkcaaWFour
import Derived.Test.YtjmlahdnbedkcaaWQPut
import Derived.Test.YtjmlahdnbedkcaaWApart
import Derived.Test.YtjmlahdnbedkcaaWArr
import Derived.Test.YtjmlahdnbedkcaaWZeros
import Derived.Test.YtjmlahdnbedkcaaWFoot
import Derived.Test.YtjmlahdnbedkcaaWKept
import Derived.Test.YtjmlahdnbedkcaaWShare
import Derived.Test.YtjmlahdnbedkcaaWN
import Derived.Test.YtjmlahdnbedkcaaWFootNe
import Derived.Test.YtjmlahdnbedkcaaWAt
import Derived.Test.YtjmlahdnbedkcaaWEqStruct
import Derived.Test.YtjmlahdnbedkcaaWRepsOne
import Derived.Test.YtjmlahdnbedkcaaWInv
import Derived.Test.YtjmlahdnbedkcaaWInvWords
import Derived.Test.YtjmlahdnbedkcaaWGuard
import Derived.Test.YtjmlahdnbedkcaaWNEv
import Derived.Test.YtjmlahdnbedkcaaWMore
namespace Go.Proofs.Ytjmlahdnbedkcaa.HWordProducts
open Go.RowKit Go.Proofs.YtjmlahdnbedkcaaW.PrintWords Go.Proofs.YtjmlahdnbedkcaaW.PrintLast Go.Proofs.YtjmlahdnbedkcaaW.PrintMore
attribute [local go_sem] max2_int min2_int max_two min_two max_three min_three max_four min_four   -- for this text's walks alone
set_option linter.unusedVariables false
set_option linter.unusedSimpArgs false



def errW : Option Int → Value
  | none => .nilIface
  | some c => .iface 0 (.int .i64 c)
theorem errW_none : errW none = .nilIface := rfl
theorem errW_some (c : Int) : errW (some c) = .iface 0 (.int .i64 c) := rfl

theorem info25 : (Try.prog.info? 25).map (fun i => (i.zero, i.size, i.bytes)) = some (some (.int .u64 0), 1, 8) := by kernel_rfl
-- the values' own types

end Go.Proofs.Ytjmlahdnbedkcaa.HWordProducts
