-- Laid by hybrid.py, a program of this session's: the kit's printer over this seat, with functions proved by hand beside it.
import Derived.Test.YtjmlahdnbedkcaaDoorProg
import Derived.Below
import Derived.Deep.Draws
import Derived.Deep.AppendLies
import Derived.Maps.AppendAt
import Derived.OwnWalk
import Derived.Laws.BytesArg
import Derived.Laws.MakeOwn
import Derived.Laws.OwnMore
import Derived.Deep.OwnRows
import Derived.Tactics
import Derived.Lib.ConvBytes
import Derived.Laws.Slices
import Derived.WalkKit
import Derived.KernelRfl
import Derived.RowKit3
import Derived.Deep.LoopGhost
import Derived.Deep.QuietTactic
import Derived.BigQuiet
import Derived.WideLaws
import Derived.Deep.DeepCutAuto
import Derived.Deep.CutBlock
import Derived.Deep.RegionHeld3
import Derived.Laws.Rows
import Derived.Lib.AppendStr
import Derived.ArgAppend
import Derived.Laws.IdiomCopy
import Derived.OrdersHeld
import Derived.Laws.BitsLemmas
import Derived.RowKit
import Derived.LoopN
import Derived.Test.YtjmlahdnbedkcaaDoorWWords
import Derived.Test.YtjmlahdnbedkcaaDoorWLast
import Derived.Test.YtjmlahdnbedkcaaDoorWTab
import Derived.Test.YtjmlahdnbedkcaaDoorWFour
import Derived.Test.YtjmlahdnbedkcaaDoorWQPut
import Derived.Test.YtjmlahdnbedkcaaDoorWApart
import Derived.Test.YtjmlahdnbedkcaaDoorWArr
import Derived.Test.YtjmlahdnbedkcaaDoorWZeros
import Derived.Test.YtjmlahdnbedkcaaDoorWFoot
import Derived.Test.YtjmlahdnbedkcaaDoorWKept
import Derived.Test.YtjmlahdnbedkcaaDoorWShare
import Derived.Test.YtjmlahdnbedkcaaDoorWN
import Derived.Test.YtjmlahdnbedkcaaDoorWFootNe
import Derived.Test.YtjmlahdnbedkcaaDoorWAt
import Derived.Test.YtjmlahdnbedkcaaDoorWEqStruct
import Derived.Test.YtjmlahdnbedkcaaDoorWRepsOne
import Derived.Test.YtjmlahdnbedkcaaDoorWInv
import Derived.Test.YtjmlahdnbedkcaaDoorWInvWords
import Derived.Test.YtjmlahdnbedkcaaDoorWGuard
import Derived.Test.YtjmlahdnbedkcaaDoorWNEv
import Derived.Test.YtjmlahdnbedkcaaDoorWMore
namespace Go.Proofs.YtjmlahdnbedkcaaDoor.HKeyApart
open Go.RowKit Go.Proofs.YtjmlahdnbedkcaaDoorW.PrintWords Go.Proofs.YtjmlahdnbedkcaaDoorW.PrintLast Go.Proofs.YtjmlahdnbedkcaaDoorW.PrintMore
attribute [local go_sem] max2_int min2_int max_two min_two max_three min_three max_four min_four   -- for this text's walks alone
set_option linter.unusedVariables false
set_option linter.unusedSimpArgs false



def errW : Option Int → Value
  | none => .nilIface
  | some c => .iface 0 (.int .i64 c)
theorem errW_none : errW none = .nilIface := rfl
theorem errW_some (c : Int) : errW (some c) = .iface 0 (.int .i64 c) := rfl

-- the values' own types

end Go.Proofs.YtjmlahdnbedkcaaDoor.HKeyApart
