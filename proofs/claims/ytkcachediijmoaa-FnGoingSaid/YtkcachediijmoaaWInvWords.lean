/- Words of the walks. For every program; no further condition. -/
import Derived.Test.YtkcachediijmoaaWInv
import Derived.Test.YtkcachediijmoaaWFootNe
namespace Go.Proofs.YtkcachediijmoaaW.PrintWords
open Go.RowKit
end Go.Proofs.YtkcachediijmoaaW.PrintWords
namespace Go.Proofs.YtkcachediijmoaaW.PrintLast
section
variable {ops:Array Oper} {a:Act} {o og:Oper} {g:Nat} {t:Tmp} {u:Bool}
end
end Go.Proofs.YtkcachediijmoaaW.PrintLast
