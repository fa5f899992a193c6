/- Words of the walks. For every program; no further condition. -/
import Derived.Test.YtdnbfegkplpngaaWInv
import Derived.Test.YtdnbfegkplpngaaWFootNe
namespace Go.Proofs.YtdnbfegkplpngaaW.PrintWords
open Go.RowKit
end Go.Proofs.YtdnbfegkplpngaaW.PrintWords
namespace Go.Proofs.YtdnbfegkplpngaaW.PrintLast
section
variable {ops:Array Oper} {a:Act} {o og:Oper} {g:Nat} {t:Tmp} {u:Bool}
end
end Go.Proofs.YtdnbfegkplpngaaW.PrintLast
