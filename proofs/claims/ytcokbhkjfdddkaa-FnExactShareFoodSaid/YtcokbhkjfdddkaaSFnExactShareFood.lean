/- What is known of the arguments of the statement FnExactShareFood, and its plain statement. -/
import Derived.Test.YtcokbhkjfdddkaaG65
namespace Go.Proofs.Ytcokbhkjfdddkaa.Q
open Go.RowKit
def W113 (x : S113) : Prop := (Lit.int .i64 x.f0).wf = true ∧ (Lit.int .i64 x.f1).wf = true ∧ (Lit.int .i64 x.f2).wf = true ∧ True
def laws_FnExactShareFood.Stmt : Prop := ∀ (y0 : (List S113)) (a1 : Int), (y0.length ≤ maxLen ∧ ∀ x ∈ y0, W113 x) → (Lit.int .i64 a1).wf = true → ∃ k, laws_FnExactShareFood.f k y0 a1 = some true
end Go.Proofs.Ytcokbhkjfdddkaa.Q
