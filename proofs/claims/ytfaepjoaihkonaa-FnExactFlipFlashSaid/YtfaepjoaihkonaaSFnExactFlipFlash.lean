/- What is known of the arguments of the statement FnExactFlipFlash, and its plain statement. -/
import Derived.Test.YtfaepjoaihkonaaPFnExactFlipFlashx2
namespace Go.Proofs.Ytfaepjoaihkonaa.PFnExactFlipFlash
open Go.RowKit
def laws_FnExactFlipFlash.Stmt : Prop := ∀ (y0 : (List Int)) (a1 : Int), (y0.length ≤ maxLen ∧ ∀ x ∈ y0, (Lit.int .i64 x).wf = true) → (Lit.int .i64 a1).wf = true → ∃ k, laws_FnExactFlipFlash.f k y0 a1 = some true
end Go.Proofs.Ytfaepjoaihkonaa.PFnExactFlipFlash
