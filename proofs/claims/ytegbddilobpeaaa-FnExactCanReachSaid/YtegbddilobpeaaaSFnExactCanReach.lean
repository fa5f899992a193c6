/- What is known of the arguments of the statement FnExactCanReach, and its plain statement. -/
import Derived.Test.YtegbddilobpeaaaG12
namespace Go.Proofs.Ytegbddilobpeaaa.Q
open Go.RowKit Go.Proofs.YtegbddilobpeaaaW.PrintWords
def laws_FnExactCanReach.Stmt : Prop := ∀ (y0 : (List Int)) (a1 : Int), (y0.length ≤ maxLen ∧ ∀ e_ ∈ y0, (Lit.int .i64 e_).wf = true) → (Lit.int .i64 a1).wf = true → ∃ k, laws_FnExactCanReach.f k y0 a1 = some true
end Go.Proofs.Ytegbddilobpeaaa.Q
