/- What is known of the arguments of the statement FnExactSumOf, and its plain statement. -/
import Derived.Test.YtfaepjoaihkonaaPFnExactSumOfx1
namespace Go.Proofs.Ytfaepjoaihkonaa.PFnExactSumOf
open Go.RowKit
def laws_FnExactSumOf.Stmt : Prop := ∀ (y0 : (List Int)), (y0.length ≤ maxLen ∧ ∀ x ∈ y0, (Lit.int .i64 x).wf = true) → ∃ k, laws_FnExactSumOf.f k y0 = some true
end Go.Proofs.Ytfaepjoaihkonaa.PFnExactSumOf
