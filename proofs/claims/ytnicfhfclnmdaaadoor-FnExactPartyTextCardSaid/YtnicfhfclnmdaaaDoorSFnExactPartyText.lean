/- What is known of the arguments of the statement FnExactPartyText, and its plain statement. -/
import Derived.Test.YtnicfhfclnmdaaaDoorG4
namespace Go.Proofs.YtnicfhfclnmdaaaDoor.Q
open Go.RowKit Go.Proofs.YtnicfhfclnmdaaaDoorW.PrintWords
structure S24 where
  f0 : Int
  f1 : Int
  f2 : (List Int)
def k24 : Kd S24 := Kd.iso (Kd.pair (Kd.int .i64) (Kd.pair (Kd.int .i64) (Kd.slice 3 (Kd.int .i64)))) (fun x : S24 => (x.f0, x.f1, x.f2))
structure S40 where
  f0 : Int
  f1 : Int
  f2 : (List S80)
  f3 : (List Bool)
def k40 : Kd S40 := Kd.iso (Kd.pair (Kd.int .i64) (Kd.pair (Kd.int .i64) (Kd.pair (Kd.slice 80 k80) (Kd.slice 4 Kd.bool)))) (fun x : S40 => (x.f0, x.f1, x.f2, x.f3))
def W24 (x : S24) : Prop := (Lit.int .i64 x.f0).wf = true ∧ (Lit.int .i64 x.f1).wf = true ∧ (x.f2.length ≤ maxLen ∧ ∀ e_ ∈ x.f2, (Lit.int .i64 e_).wf = true)
def W80 (x : S80) : Prop := (Lit.int .i64 x.f0).wf = true ∧ (Lit.int .i64 x.f1).wf = true ∧ (Lit.int .i64 x.f2).wf = true ∧ True
def W40 (x : S40) : Prop := (Lit.int .i64 x.f0).wf = true ∧ (Lit.int .i64 x.f1).wf = true ∧ (x.f2.length ≤ maxLen ∧ ∀ e_ ∈ x.f2, W80 e_) ∧ (x.f3.length ≤ maxLen ∧ ∀ e_ ∈ x.f3, True)
def laws_FnExactPartyText.Stmt : Prop := ∀ (y0 : S24) (y1 : S40), W24 y0 → W40 y1 → ∃ k, laws_FnExactPartyText.f k y0.f0 y0.f1 y0.f2 y1.f0 y1.f1 y1.f2 y1.f3 = some true
end Go.Proofs.YtnicfhfclnmdaaaDoor.Q
