/- What is known of the arguments of the statement FnExactIsFair, and its plain statement. -/
import Derived.Test.YtcokbhkjfdddkaaG54
namespace Go.Proofs.Ytcokbhkjfdddkaa.Q
open Go.RowKit
def W113 (x : S113) : Prop := (Lit.int .i64 x.f0).wf = true ∧ (Lit.int .i64 x.f1).wf = true ∧ (Lit.int .i64 x.f2).wf = true ∧ True
def laws_FnExactIsFair.Stmt : Prop := ∀ (y0 : (List S113)) (y1 : (List Int)), (y0.length ≤ maxLen ∧ ∀ x ∈ y0, W113 x) → (y1.length ≤ maxLen ∧ ∀ x ∈ y1, (Lit.int .i64 x).wf = true) → ∃ k, laws_FnExactIsFair.f k y0 y1 = some true
end Go.Proofs.Ytcokbhkjfdddkaa.Q
