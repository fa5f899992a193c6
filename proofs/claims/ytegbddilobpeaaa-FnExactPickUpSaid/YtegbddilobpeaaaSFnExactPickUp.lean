/- What is known of the arguments of the statement FnExactPickUp, and its plain statement. -/
import Derived.Test.YtegbddilobpeaaaG24
namespace Go.Proofs.Ytegbddilobpeaaa.Q
open Go.RowKit Go.Proofs.YtegbddilobpeaaaW.PrintWords
structure S62 where
  f0 : Int
  f1 : Int
  f2 : (List S147)
  f3 : (List Bool)
def k62 : Kd S62 := Kd.iso (Kd.pair (Kd.int .i64) (Kd.pair (Kd.int .i64) (Kd.pair (Kd.slice 147 k147) (Kd.slice 4 Kd.bool)))) (fun x : S62 => (x.f0, x.f1, x.f2, x.f3))
def W147 (x : S147) : Prop := (Lit.int .i64 x.f0).wf = true ∧ (Lit.int .i64 x.f1).wf = true ∧ (Lit.int .i64 x.f2).wf = true ∧ True
def W62 (x : S62) : Prop := (Lit.int .i64 x.f0).wf = true ∧ (Lit.int .i64 x.f1).wf = true ∧ (x.f2.length ≤ maxLen ∧ ∀ e_ ∈ x.f2, W147 e_) ∧ (x.f3.length ≤ maxLen ∧ ∀ e_ ∈ x.f3, True)
def laws_FnExactPickUp.Stmt : Prop := ∀ (y0 : S62) (a1 : Int), W62 y0 → (Lit.int .i64 a1).wf = true → ∃ k, laws_FnExactPickUp.f k y0.f0 y0.f1 y0.f2 y0.f3 a1 = some true
end Go.Proofs.Ytegbddilobpeaaa.Q
