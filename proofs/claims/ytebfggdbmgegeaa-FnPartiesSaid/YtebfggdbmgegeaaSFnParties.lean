/- What is known of the arguments of the statement FnParties, and its plain statement. -/
import Derived.Test.YtebfggdbmgegeaaG6
namespace Go.Proofs.Ytebfggdbmgegeaa.Q
open Go.RowKit Go.Proofs.YtebfggdbmgegeaaW.PrintWords
def laws_FnParties.Stmt : Prop := ∀ (y0 : (List Int)), (y0.length ≤ maxLen ∧ ∀ e_ ∈ y0, (Lit.int .u8 e_).wf = true) → ∃ k, laws_FnParties.f k y0 = some true
end Go.Proofs.Ytebfggdbmgegeaa.Q
