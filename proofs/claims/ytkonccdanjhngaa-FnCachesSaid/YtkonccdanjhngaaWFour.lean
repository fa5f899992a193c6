/- Words of the walks. For every program; no further condition. -/
import Derived.Test.YtkonccdanjhngaaWTab
namespace Go.Proofs.YtkonccdanjhngaaW.PrintLast
section
variable {P:Program} {ops:Array Oper} {Q:Exit→Act→World→Prop} {md:Region.Mode} {S:World→Prop} {ds:List Nat} {T:Bool × List (List Nat × List Nat)}
end
end Go.Proofs.YtkonccdanjhngaaW.PrintLast
