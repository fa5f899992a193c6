/- Words of the walks. For every program; no further condition. -/
import Derived.Test.YtoppjiahnchjiaaWInv
import Derived.Test.YtoppjiahnchjiaaWFootNe
namespace Go.Proofs.YtoppjiahnchjiaaW.PrintWords
open Go.RowKit
end Go.Proofs.YtoppjiahnchjiaaW.PrintWords
namespace Go.Proofs.YtoppjiahnchjiaaW.PrintLast
section
variable {ops : Array Oper} {a : Act} {o og : Oper} {g : Nat} {t : Tmp} {u : Bool}
end
end Go.Proofs.YtoppjiahnchjiaaW.PrintLast
