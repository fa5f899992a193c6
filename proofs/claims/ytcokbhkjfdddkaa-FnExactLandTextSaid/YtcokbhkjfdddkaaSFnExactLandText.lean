/- What is known of the arguments of the statement FnExactLandText, and its plain statement. -/
import Derived.Test.YtcokbhkjfdddkaaG56
namespace Go.Proofs.Ytcokbhkjfdddkaa.Q
open Go.RowKit Go.Proofs.YtcokbhkjfdddkaaW.PrintWords
structure S47 where
  f0 : Int
  f1 : Int
  f2 : (List Int)
def k47 : Kd S47 := Kd.iso (Kd.pair (Kd.int .i64) (Kd.pair (Kd.int .i64) (Kd.slice 3 (Kd.int .i64)))) (fun x : S47 => (x.f0, x.f1, x.f2))
def W47 (x : S47) : Prop := (Lit.int .i64 x.f0).wf = true ∧ (Lit.int .i64 x.f1).wf = true ∧ (x.f2.length ≤ maxLen ∧ ∀ e_ ∈ x.f2, (Lit.int .i64 e_).wf = true)
def laws_FnExactLandText.Stmt : Prop := ∀ (y0 : S47), W47 y0 → ∃ k, laws_FnExactLandText.f k y0.f0 y0.f1 y0.f2 = some true
end Go.Proofs.Ytcokbhkjfdddkaa.Q
