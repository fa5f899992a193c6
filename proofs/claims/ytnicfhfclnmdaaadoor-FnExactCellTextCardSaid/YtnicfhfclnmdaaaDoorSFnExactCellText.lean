/- What is known of the arguments of the statement FnExactCellText, and its plain statement. -/
import Derived.Test.YtnicfhfclnmdaaaDoorG3
namespace Go.Proofs.YtnicfhfclnmdaaaDoor.Q
open Go.RowKit Go.Proofs.YtnicfhfclnmdaaaDoorW.PrintWords
structure S24 where
  f0 : Int
  f1 : Int
  f2 : (List Int)
def k24 : Kd S24 := Kd.iso (Kd.pair (Kd.int .i64) (Kd.pair (Kd.int .i64) (Kd.slice 3 (Kd.int .i64)))) (fun x : S24 => (x.f0, x.f1, x.f2))
def W24 (x : S24) : Prop := (Lit.int .i64 x.f0).wf = true ∧ (Lit.int .i64 x.f1).wf = true ∧ (x.f2.length ≤ maxLen ∧ ∀ e_ ∈ x.f2, (Lit.int .i64 e_).wf = true)
def laws_FnExactCellText.Stmt : Prop := ∀ (y0 : S24) (a1 : Int), W24 y0 → (Lit.int .i64 a1).wf = true → ∃ k, laws_FnExactCellText.f k y0.f0 y0.f1 y0.f2 a1 = some true
end Go.Proofs.YtnicfhfclnmdaaaDoor.Q
