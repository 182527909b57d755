-- Laid by hybrid.py, a program of this session's: the kit's printer over this seat, with functions proved by hand beside it.
import Derived.Test.YtmenjjofmafacaaDoorProg
import Derived.Below
import Derived.Deep.Draws
import Derived.Deep.AppendLies
import Derived.Maps.AppendAt
import Derived.OwnWalk
import Derived.Laws.BytesArg
import Derived.Laws.MakeOwn
import Derived.Laws.OwnMore
import Derived.Deep.OwnRows
import Derived.Tactics
import Derived.Lib.ConvBytes
import Derived.Laws.Slices
import Derived.WalkKit
import Derived.KernelRfl
import Derived.RowKit3
import Derived.Deep.LoopGhost
import Derived.Deep.QuietTactic
import Derived.BigQuiet
import Derived.WideLaws
import Derived.Deep.DeepCutAuto
import Derived.Deep.CutBlock
import Derived.Deep.RegionHeld3
import Derived.Laws.Rows
import Derived.Lib.AppendStr
import Derived.ArgAppend
import Derived.Laws.IdiomCopy
import Derived.OrdersHeld
import Derived.Laws.BitsLemmas
import Derived.RowKit
import Derived.LoopN
import Derived.Test.YtmenjjofmafacaaDoorWWords
import Derived.Test.YtmenjjofmafacaaDoorWLast
import Derived.Test.YtmenjjofmafacaaDoorWTab
import Derived.Test.YtmenjjofmafacaaDoorWFour
import Derived.Test.YtmenjjofmafacaaDoorWQPut
import Derived.Test.YtmenjjofmafacaaDoorWApart
import Derived.Test.YtmenjjofmafacaaDoorWArr
import Derived.Test.YtmenjjofmafacaaDoorWZeros
import Derived.Test.YtmenjjofmafacaaDoorWFoot
import Derived.Test.YtmenjjofmafacaaDoorWKept
import Derived.Test.YtmenjjofmafacaaDoorWShare
import Derived.Test.YtmenjjofmafacaaDoorWN
import Derived.Test.YtmenjjofmafacaaDoorWFootNe
import Derived.Test.YtmenjjofmafacaaDoorWAt
import Derived.Test.YtmenjjofmafacaaDoorWEqStruct
import Derived.Test.YtmenjjofmafacaaDoorWRepsOne
import Derived.Test.YtmenjjofmafacaaDoorWInv
import Derived.Test.YtmenjjofmafacaaDoorWInvWords
import Derived.Test.YtmenjjofmafacaaDoorWGuard
import Derived.Test.YtmenjjofmafacaaDoorWNEv
import Derived.Test.YtmenjjofmafacaaDoorWMore
namespace Go.Proofs.YtmenjjofmafacaaDoor.HKeyBack
open Go.RowKit Go.Proofs.YtmenjjofmafacaaDoorW.PrintWords Go.Proofs.YtmenjjofmafacaaDoorW.PrintLast Go.Proofs.YtmenjjofmafacaaDoorW.PrintMore
attribute [local go_sem] max2_int min2_int max_two min_two max_three min_three max_four min_four   -- for this text's walks alone
set_option linter.unusedVariables false
set_option linter.unusedSimpArgs false



def errW : Option Int → Value
  | none => .nilIface
  | some c => .iface 0 (.int .i64 c)
theorem errW_none : errW none = .nilIface := rfl
theorem errW_some (c : Int) : errW (some c) = .iface 0 (.int .i64 c) := rfl

-- the values' own types

end Go.Proofs.YtmenjjofmafacaaDoor.HKeyBack
