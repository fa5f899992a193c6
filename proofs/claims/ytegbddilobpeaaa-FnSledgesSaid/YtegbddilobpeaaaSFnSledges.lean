/- What is known of the arguments of the statement FnSledges, and its plain statement. -/
import Derived.Test.YtegbddilobpeaaaG13
namespace Go.Proofs.Ytegbddilobpeaaa.Q
open Go.RowKit Go.Proofs.YtegbddilobpeaaaW.PrintWords
def laws_FnSledges.Stmt : Prop := ∀ (y0 : (List Int)), (y0.length ≤ maxLen ∧ ∀ e_ ∈ y0, (Lit.int .u8 e_).wf = true) → ∃ k, laws_FnSledges.f k y0 = some true
end Go.Proofs.Ytegbddilobpeaaa.Q
