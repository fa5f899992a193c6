/- Words of the walks. For every program; no further condition. -/
import Derived.Test.YtkonccdanjhngaaWWords
import Derived.Laws.StructEq
namespace Go.Proofs.YtkonccdanjhngaaW.PrintWords
open Go.RowKit
section
variable {P:Program} {d:Nat} {xs ys:Array Value} {f:Field} {fs:List Field} {a b:Value} {r s:Bool} {w:World}
end
end Go.Proofs.YtkonccdanjhngaaW.PrintWords
