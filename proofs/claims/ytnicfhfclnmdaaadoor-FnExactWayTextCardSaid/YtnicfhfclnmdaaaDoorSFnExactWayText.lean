/- What is known of the arguments of the statement FnExactWayText, and its plain statement. -/
import Derived.Test.YtnicfhfclnmdaaaDoorG5
namespace Go.Proofs.YtnicfhfclnmdaaaDoor.Q
open Go.RowKit Go.Proofs.YtnicfhfclnmdaaaDoorW.PrintWords
structure S24 where
  f0 : Int
  f1 : Int
  f2 : (List Int)
def k24 : Kd S24 := Kd.iso (Kd.pair (Kd.int .i64) (Kd.pair (Kd.int .i64) (Kd.slice 3 (Kd.int .i64)))) (fun x : S24 => (x.f0, x.f1, x.f2))
def W24 (x : S24) : Prop := (Lit.int .i64 x.f0).wf = true ∧ (Lit.int .i64 x.f1).wf = true ∧ (x.f2.length ≤ maxLen ∧ ∀ e_ ∈ x.f2, (Lit.int .i64 e_).wf = true)
def laws_FnExactWayText.Stmt : Prop := ∀ (y0 : S24) (y1 : (List Int)), W24 y0 → (y1.length ≤ maxLen ∧ ∀ e_ ∈ y1, (Lit.int .i64 e_).wf = true) → ∃ k, laws_FnExactWayText.f k y0.f0 y0.f1 y0.f2 y1 = some true
end Go.Proofs.YtnicfhfclnmdaaaDoor.Q
