/- What is known of the arguments of the statement FnExactEat, and its plain statement. -/
import Derived.Test.YtcokbhkjfdddkaaG69
namespace Go.Proofs.Ytcokbhkjfdddkaa.Q
open Go.RowKit Go.Proofs.YtcokbhkjfdddkaaW.PrintWords
structure S84 where
  f0 : Int
  f1 : Int
  f2 : (List S113)
  f3 : (List Bool)
def k84 : Kd S84 := Kd.iso (Kd.pair (Kd.int .i64) (Kd.pair (Kd.int .i64) (Kd.pair (Kd.slice 113 k113) (Kd.slice 4 Kd.bool)))) (fun x : S84 => (x.f0, x.f1, x.f2, x.f3))
def W113 (x : S113) : Prop := (Lit.int .i64 x.f0).wf = true ∧ (Lit.int .i64 x.f1).wf = true ∧ (Lit.int .i64 x.f2).wf = true ∧ True
def W84 (x : S84) : Prop := (Lit.int .i64 x.f0).wf = true ∧ (Lit.int .i64 x.f1).wf = true ∧ (x.f2.length ≤ maxLen ∧ ∀ e_ ∈ x.f2, W113 e_) ∧ (x.f3.length ≤ maxLen ∧ ∀ e_ ∈ x.f3, True)
def laws_FnExactEat.Stmt : Prop := ∀ (y0 : S84), W84 y0 → ∃ k, laws_FnExactEat.f k y0.f0 y0.f1 y0.f2 y0.f3 = some true
end Go.Proofs.Ytcokbhkjfdddkaa.Q
