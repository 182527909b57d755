-- Laid by hybrid.py, a program of this session's: the kit's printer over this seat, with functions proved by hand beside it.
import Derived.Test.YtmenjjofmafacaaProg
import Derived.Below
import Derived.Deep.Draws
import Derived.Deep.AppendLies
import Derived.Maps.AppendAt
import Derived.OwnWalk
import Derived.Laws.BytesArg
import Derived.Laws.MakeOwn
import Derived.Laws.OwnMore
import Derived.Deep.OwnRows
import Derived.Tactics
import Derived.Lib.ConvBytes
import Derived.Laws.Slices
import Derived.WalkKit
import Derived.KernelRfl
import Derived.RowKit3
import Derived.Deep.LoopGhost
import Derived.Deep.QuietTactic
import Derived.BigQuiet
import Derived.WideLaws
import Derived.Deep.DeepCutAuto
import Derived.Deep.CutBlock
import Derived.Deep.RegionHeld3
import Derived.Laws.Rows
import Derived.Lib.AppendStr
import Derived.ArgAppend
import Derived.Laws.IdiomCopy
import Derived.OrdersHeld
import Derived.Laws.BitsLemmas
import Derived.RowKit
import Derived.Test.YtmenjjofmafacaaWWords
import Derived.Test.YtmenjjofmafacaaWLast
import Derived.Test.YtmenjjofmafacaaWTab
import Derived.Test.YtmenjjofmafacaaWFour
import Derived.Test.YtmenjjofmafacaaWQPut
import Derived.Test.YtmenjjofmafacaaWApart
import Derived.Test.YtmenjjofmafacaaWArr
import Derived.Test.YtmenjjofmafacaaWZeros
import Derived.Test.YtmenjjofmafacaaWFoot
import Derived.Test.YtmenjjofmafacaaWKept
import Derived.Test.YtmenjjofmafacaaWShare
import Derived.Test.YtmenjjofmafacaaWN
import Derived.Test.YtmenjjofmafacaaWFootNe
import Derived.Test.YtmenjjofmafacaaWAt
import Derived.Test.YtmenjjofmafacaaWEqStruct
import Derived.Test.YtmenjjofmafacaaWRepsOne
import Derived.Test.YtmenjjofmafacaaWInv
import Derived.Test.YtmenjjofmafacaaWInvWords
import Derived.Test.YtmenjjofmafacaaWGuard
import Derived.Test.YtmenjjofmafacaaWNEv
import Derived.Test.YtmenjjofmafacaaWMore
namespace Go.Proofs.Ytmenjjofmafacaa.HClockTells
open Go.RowKit Go.Proofs.YtmenjjofmafacaaW.PrintWords Go.Proofs.YtmenjjofmafacaaW.PrintLast Go.Proofs.YtmenjjofmafacaaW.PrintMore
attribute [local go_sem] max2_int min2_int max_two min_two max_three min_three max_four min_four   -- for this text's walks alone
set_option linter.unusedVariables false
set_option linter.unusedSimpArgs false



def errW : Option Int → Value
  | none => .nilIface
  | some c => .iface 0 (.int .i64 c)
theorem errW_none : errW none = .nilIface := rfl
theorem errW_some (c : Int) : errW (some c) = .iface 0 (.int .i64 c) := rfl

-- the values' own types

end Go.Proofs.Ytmenjjofmafacaa.HClockTells
