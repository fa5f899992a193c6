/- What is known of the arguments of the statement FnExactSplitGap, and its plain statement. -/
import Derived.Test.YtcokbhkjfdddkaaG51
namespace Go.Proofs.Ytcokbhkjfdddkaa.Q
open Go.RowKit
def laws_FnExactSplitGap.Stmt : Prop := ∀ (y0 : (List Int)) (y1 : (List Int)), (y0.length ≤ maxLen ∧ ∀ x ∈ y0, (Lit.int .i64 x).wf = true) → (y1.length ≤ maxLen ∧ ∀ x ∈ y1, (Lit.int .i64 x).wf = true) → ∃ k, laws_FnExactSplitGap.f k y0 y1 = some true
end Go.Proofs.Ytcokbhkjfdddkaa.Q
