/- The compiled form of the seat's functions (printed by a program out of what cFun answers; each is checked here). -/
import Derived.Test.YtcffgogjhfkaeaaDoorZec
import Derived.Test.YtcffgogjhfkaeaaDoorProg
import Derived.KernelRfl
namespace Go.Proofs.YtcffgogjhfkaeaaDoor
open Go
end Go.Proofs.YtcffgogjhfkaeaaDoor
