/- What is known of the arguments of the statement FnExactHasIn, and its plain statement. -/
import Derived.Test.YtcokbhkjfdddkaaG55
namespace Go.Proofs.Ytcokbhkjfdddkaa.Q
open Go.RowKit
def W110 (x : S110) : Prop := (Lit.int .i64 x.f0).wf = true ∧ (Lit.int .i64 x.f1).wf = true ∧ (Lit.int .i64 x.f2).wf = true
def laws_FnExactHasIn.Stmt : Prop := ∀ (y0 : (List S110)) (a1 : Int), (y0.length ≤ maxLen ∧ ∀ x ∈ y0, W110 x) → (Lit.int .i64 a1).wf = true → ∃ k, laws_FnExactHasIn.f k y0 a1 = some true
end Go.Proofs.Ytcokbhkjfdddkaa.Q
