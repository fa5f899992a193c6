/- Words of the walks. For every program; no further condition. -/
import Derived.Test.YtkonccdanjhngaaWN
namespace Go.Proofs.YtkonccdanjhngaaW.PrintWords
open Go.RowKit
namespace Kd
section
variable {α:Type} {d:Kd α} {W:World} {g n:Nat} {S ok:Nat→Prop} {A:Option Addr} {ad:Addr} {xs:List α}
end
end Kd
end Go.Proofs.YtkonccdanjhngaaW.PrintWords
