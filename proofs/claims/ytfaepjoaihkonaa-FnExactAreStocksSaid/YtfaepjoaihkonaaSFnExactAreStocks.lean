/- What is known of the arguments of the statement FnExactAreStocks, and its plain statement. -/
import Derived.Test.YtfaepjoaihkonaaPFnExactAreStocksx5
namespace Go.Proofs.Ytfaepjoaihkonaa.PFnExactAreStocks
open Go.RowKit
def W48 (x : S48) : Prop := (Lit.int .i64 x.f0).wf = true ∧ (Lit.int .i64 x.f1).wf = true ∧ (Lit.int .i64 x.f2).wf = true
def laws_FnExactAreStocks.Stmt : Prop := ∀ (y0 : (List S48)), (y0.length ≤ maxLen ∧ ∀ x ∈ y0, W48 x) → ∃ k, laws_FnExactAreStocks.f k y0 = some true
end Go.Proofs.Ytfaepjoaihkonaa.PFnExactAreStocks
