/- What is known of the arguments of the statement FnExactGiveBack, and its plain statement. -/
import Derived.Test.YtcokbhkjfdddkaaG59
namespace Go.Proofs.Ytcokbhkjfdddkaa.Q
open Go.RowKit
def W110 (x : S110) : Prop := (Lit.int .i64 x.f0).wf = true ∧ (Lit.int .i64 x.f1).wf = true ∧ (Lit.int .i64 x.f2).wf = true
def laws_FnExactGiveBack.Stmt : Prop := ∀ (y0 : (List S110)) (a1 : Int) (a2 : Int), (y0.length ≤ maxLen ∧ ∀ x ∈ y0, W110 x) → (Lit.int .i64 a1).wf = true → (Lit.int .i64 a2).wf = true → ∃ k, laws_FnExactGiveBack.f k y0 a1 a2 = some true
end Go.Proofs.Ytcokbhkjfdddkaa.Q
