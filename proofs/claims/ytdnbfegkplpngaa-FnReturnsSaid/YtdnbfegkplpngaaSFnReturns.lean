/- What is known of the arguments of the statement FnReturns, and its plain statement. -/
import Derived.Test.YtdnbfegkplpngaaG10
namespace Go.Proofs.Ytdnbfegkplpngaa.Q
open Go.RowKit Go.Proofs.YtdnbfegkplpngaaW.PrintWords
def laws_FnReturns.Stmt:Prop:=∀ (y0:(List Int)),(y0.length≤maxLen∧∀ e_∈y0,(Lit.int .u8 e_).wf=true)→∃ k,laws_FnReturns.f k y0=some true
end Go.Proofs.Ytdnbfegkplpngaa.Q
