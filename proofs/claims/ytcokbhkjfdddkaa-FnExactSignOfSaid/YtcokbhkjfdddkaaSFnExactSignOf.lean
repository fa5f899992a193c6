/- What is known of the arguments of the statement FnExactSignOf, and its plain statement. -/
import Derived.Test.YtcokbhkjfdddkaaG52
namespace Go.Proofs.Ytcokbhkjfdddkaa.Q
open Go.RowKit
def laws_FnExactSignOf.Stmt : Prop := ∀ (a0 : Int), (Lit.int .i64 a0).wf = true → ∃ k, laws_FnExactSignOf.f k a0 = some true
end Go.Proofs.Ytcokbhkjfdddkaa.Q
