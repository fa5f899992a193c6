/- Words of the walks. For every program; no further condition. -/
import Derived.Test.YtebfggdbmgegeaaWInv
import Derived.Test.YtebfggdbmgegeaaWFootNe
namespace Go.Proofs.YtebfggdbmgegeaaW.PrintWords
open Go.RowKit
end Go.Proofs.YtebfggdbmgegeaaW.PrintWords
namespace Go.Proofs.YtebfggdbmgegeaaW.PrintLast
section
variable {ops:Array Oper} {a:Act} {o og:Oper} {g:Nat} {t:Tmp} {u:Bool}
end
end Go.Proofs.YtebfggdbmgegeaaW.PrintLast
