/- What is known of the arguments of the statement FnGoing, and its plain statement. -/
import Derived.Test.YtkcachediijmoaaG10
namespace Go.Proofs.Ytkcachediijmoaa.Q
open Go.RowKit Go.Proofs.YtkcachediijmoaaW.PrintWords
def laws_FnGoing.Stmt:Prop:=∀ (y0:(List Int)),(y0.length≤maxLen∧∀ e_∈y0,(Lit.int .u8 e_).wf=true)→∃ k,laws_FnGoing.f k y0=some true
end Go.Proofs.Ytkcachediijmoaa.Q
