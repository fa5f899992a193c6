/- What is known of the arguments of the statement FnCaches, and its plain statement. -/
import Derived.Test.YtkonccdanjhngaaG11
namespace Go.Proofs.Ytkonccdanjhngaa.Q
open Go.RowKit Go.Proofs.YtkonccdanjhngaaW.PrintWords
def q0h.Stmt:Prop:=∀ (y0:(List Int)),(y0.length≤maxLen∧∀ e_∈y0,(Lit.int .u8 e_).wf=true)→∃ k,q0h.f k y0=some true
end Go.Proofs.Ytkonccdanjhngaa.Q
