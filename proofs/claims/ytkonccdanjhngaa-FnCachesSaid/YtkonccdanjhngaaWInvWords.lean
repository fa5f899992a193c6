/- Words of the walks. For every program; no further condition. -/
import Derived.Test.YtkonccdanjhngaaWInv
import Derived.Test.YtkonccdanjhngaaWFootNe
namespace Go.Proofs.YtkonccdanjhngaaW.PrintWords
open Go.RowKit
end Go.Proofs.YtkonccdanjhngaaW.PrintWords
namespace Go.Proofs.YtkonccdanjhngaaW.PrintLast
section
variable {ops:Array Oper} {a:Act} {o og:Oper} {g:Nat} {t:Tmp} {u:Bool}
end
end Go.Proofs.YtkonccdanjhngaaW.PrintLast
