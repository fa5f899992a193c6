/- What is known of the arguments of the statement FnTexts, and its plain statement. -/
import Derived.Test.YtjbbmeldcoghbaaDoorG7
namespace Go.Proofs.YtjbbmeldcoghbaaDoor.Q
open Go.RowKit Go.Proofs.YtjbbmeldcoghbaaDoorW.PrintWords
def laws_FnTexts.Stmt : Prop := ∀ (y0 : (List Int)), (y0.length ≤ maxLen ∧ ∀ e_ ∈ y0, (Lit.int .u8 e_).wf = true) → ∃ k, laws_FnTexts.f k y0 = some true
end Go.Proofs.YtjbbmeldcoghbaaDoor.Q
