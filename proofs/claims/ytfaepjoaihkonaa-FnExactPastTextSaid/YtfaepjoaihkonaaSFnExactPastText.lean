/- What is known of the arguments of the statement FnExactPastText, and its plain statement. -/
import Derived.Test.YtfaepjoaihkonaaPFnExactPastTextx1
namespace Go.Proofs.Ytfaepjoaihkonaa.PFnExactPastText
open Go.RowKit
def laws_FnExactPastText.Stmt : Prop := ∀ (y0 : (List Bool)), (y0.length ≤ maxLen ∧ ∀ x ∈ y0, True) → ∃ k, laws_FnExactPastText.f k y0 = some true
end Go.Proofs.Ytfaepjoaihkonaa.PFnExactPastText
