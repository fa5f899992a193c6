/- What is known of the arguments of the statement FnExactSumAt, and its plain statement. -/
import Derived.Test.YtfaepjoaihkonaaPFnExactSumAtx2
namespace Go.Proofs.Ytfaepjoaihkonaa.PFnExactSumAt
open Go.RowKit
def laws_FnExactSumAt.Stmt : Prop := ∀ (y0 : (List Int)) (y1 : (List Int)), (y0.length ≤ maxLen ∧ ∀ x ∈ y0, (Lit.int .i64 x).wf = true) → (y1.length ≤ maxLen ∧ ∀ x ∈ y1, (Lit.int .i64 x).wf = true) → ∃ k, laws_FnExactSumAt.f k y0 y1 = some true
end Go.Proofs.Ytfaepjoaihkonaa.PFnExactSumAt
