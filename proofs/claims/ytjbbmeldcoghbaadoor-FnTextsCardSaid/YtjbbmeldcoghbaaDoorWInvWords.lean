/- Words of the walks. For every program; no further condition. -/
import Derived.Test.YtjbbmeldcoghbaaDoorWInv
import Derived.Test.YtjbbmeldcoghbaaDoorWFootNe
namespace Go.Proofs.YtjbbmeldcoghbaaDoorW.PrintWords
open Go.RowKit
end Go.Proofs.YtjbbmeldcoghbaaDoorW.PrintWords
namespace Go.Proofs.YtjbbmeldcoghbaaDoorW.PrintLast
section
variable {ops:Array Oper} {a:Act} {o og:Oper} {g:Nat} {t:Tmp} {u:Bool}
end
end Go.Proofs.YtjbbmeldcoghbaaDoorW.PrintLast
