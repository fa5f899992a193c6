/- What is known of the arguments of the statement FnExactHeaviestFirst, and its plain statement. -/
import Derived.Test.YtegbddilobpeaaaG32
namespace Go.Proofs.Ytegbddilobpeaaa.Q
open Go.RowKit Go.Proofs.YtegbddilobpeaaaW.PrintWords
def laws_FnExactHeaviestFirst.Stmt : Prop := ∀ (y0 : (List Int)), (y0.length ≤ maxLen ∧ ∀ e_ ∈ y0, (Lit.int .i64 e_).wf = true) → ∃ k, laws_FnExactHeaviestFirst.f k y0 = some true
end Go.Proofs.Ytegbddilobpeaaa.Q
