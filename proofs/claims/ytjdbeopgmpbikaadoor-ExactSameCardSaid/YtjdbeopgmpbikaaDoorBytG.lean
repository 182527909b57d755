/- What the code of these functions asks for: printed by a program of this session's (gens.py) out of the seat's own functions; the kernel checks each row. -/
import Derived.Test.YtjdbeopgmpbikaaDoorEngH
import Derived.Test.YtjdbeopgmpbikaaDoorProg
import Derived.Test.YtjdbeopgmpbikaaDoorBase
namespace Go.Proofs.YtjdbeopgmpbikaaDoor.Eng
open Go Go.Proofs
set_option linter.unusedVariables false
set_option maxRecDepth 1000000
end Go.Proofs.YtjdbeopgmpbikaaDoor.Eng
