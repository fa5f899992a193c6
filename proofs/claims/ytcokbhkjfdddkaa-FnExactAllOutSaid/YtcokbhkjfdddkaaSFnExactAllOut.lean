/- What is known of the arguments of the statement FnExactAllOut, and its plain statement. -/
import Derived.Test.YtcokbhkjfdddkaaG53
namespace Go.Proofs.Ytcokbhkjfdddkaa.Q
open Go.RowKit
def W110 (x : S110) : Prop := (Lit.int .i64 x.f0).wf = true ∧ (Lit.int .i64 x.f1).wf = true ∧ (Lit.int .i64 x.f2).wf = true
def laws_FnExactAllOut.Stmt : Prop := ∀ (y0 : (List S110)), (y0.length ≤ maxLen ∧ ∀ x ∈ y0, W110 x) → ∃ k, laws_FnExactAllOut.f k y0 = some true
end Go.Proofs.Ytcokbhkjfdddkaa.Q
