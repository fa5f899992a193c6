/- What is known of the arguments of the statement FnExactReadSign, and its plain statement. -/
import Derived.Test.YtcokbhkjfdddkaaG57
namespace Go.Proofs.Ytcokbhkjfdddkaa.Q
open Go.RowKit
def laws_FnExactReadSign.Stmt : Prop := ∀ (y0 : (List Int)), (y0.length ≤ maxLen ∧ ∀ x ∈ y0, (Lit.int .i64 x).wf = true) → ∃ k, laws_FnExactReadSign.f k y0 = some true
end Go.Proofs.Ytcokbhkjfdddkaa.Q
