/- Words of the walks. For every program; no further condition. -/
import Derived.Test.YteiepphhkikmoaaWInv
import Derived.Test.YteiepphhkikmoaaWFootNe
namespace Go.Proofs.YteiepphhkikmoaaW.PrintWords
open Go.RowKit
end Go.Proofs.YteiepphhkikmoaaW.PrintWords
namespace Go.Proofs.YteiepphhkikmoaaW.PrintLast
section
variable {ops:Array Oper} {a:Act} {o og:Oper} {g:Nat} {t:Tmp} {u:Bool}
end
end Go.Proofs.YteiepphhkikmoaaW.PrintLast
