/- What is known of the arguments of the statement FnExactCanReturnNow, and its plain statement. -/
import Derived.Test.YteiepphhkikmoaaG15
namespace Go.Proofs.Yteiepphhkikmoaa.Q
open Go.RowKit Go.Proofs.YteiepphhkikmoaaW.PrintWords
structure S24 where
  f0 : Int
  f1 : Int
  f2 : (List Int)
def k24 : Kd S24 := Kd.iso (Kd.pair (Kd.int .i64) (Kd.pair (Kd.int .i64) (Kd.slice 3 (Kd.int .i64)))) (fun x : S24 => (x.f0, x.f1, x.f2))
structure S26 where
  f0 : Int
  f1 : Int
def k26 : Kd S26 := Kd.iso (Kd.pair (Kd.int .i64) (Kd.int .i64)) (fun x : S26 => (x.f0, x.f1))
structure S31 where
  f0 : Int
  f1 : Int
  f2 : (List S119)
  f3 : (List Bool)
def k31 : Kd S31 := Kd.iso (Kd.pair (Kd.int .i64) (Kd.pair (Kd.int .i64) (Kd.pair (Kd.slice 119 k119) (Kd.slice 4 Kd.bool)))) (fun x : S31 => (x.f0, x.f1, x.f2, x.f3))
structure S34 where
  f0 : S24
  f1 : Int
  f2 : S26
  f3 : (List S87)
  f4 : S31
  f5 : (List S112)
  f6 : Int
  f7 : Int
  f8 : Int
def k34 : Kd S34 := Kd.iso (Kd.pair k24 (Kd.pair (Kd.int .i64) (Kd.pair k26 (Kd.pair (Kd.slice 87 k87) (Kd.pair k31 (Kd.pair (Kd.slice 112 k112) (Kd.pair (Kd.int .i64) (Kd.pair (Kd.int .i64) (Kd.int .i64))))))))) (fun x : S34 => (x.f0, x.f1, x.f2, x.f3, x.f4, x.f5, x.f6, x.f7, x.f8))
def W24 (x : S24) : Prop := (Lit.int .i64 x.f0).wf = true ∧ (Lit.int .i64 x.f1).wf = true ∧ (x.f2.length ≤ maxLen ∧ ∀ e_ ∈ x.f2, (Lit.int .i64 e_).wf = true)
def W26 (x : S26) : Prop := (Lit.int .i64 x.f0).wf = true ∧ (Lit.int .i64 x.f1).wf = true
def W87 (x : S87) : Prop := (Lit.int .i64 x.f0).wf = true ∧ (Lit.int .i64 x.f1).wf = true
def W119 (x : S119) : Prop := (Lit.int .i64 x.f0).wf = true ∧ (Lit.int .i64 x.f1).wf = true ∧ (Lit.int .i64 x.f2).wf = true ∧ True
def W31 (x : S31) : Prop := (Lit.int .i64 x.f0).wf = true ∧ (Lit.int .i64 x.f1).wf = true ∧ (x.f2.length ≤ maxLen ∧ ∀ e_ ∈ x.f2, W119 e_) ∧ (x.f3.length ≤ maxLen ∧ ∀ e_ ∈ x.f3, True)
def W112 (x : S112) : Prop := (Lit.int .i64 x.f0).wf = true ∧ (Lit.int .i64 x.f1).wf = true ∧ (Lit.int .i64 x.f2).wf = true ∧ (Lit.int .i64 x.f3).wf = true
def W34 (x : S34) : Prop := W24 x.f0 ∧ (Lit.int .i64 x.f1).wf = true ∧ W26 x.f2 ∧ (x.f3.length ≤ maxLen ∧ ∀ e_ ∈ x.f3, W87 e_) ∧ W31 x.f4 ∧ (x.f5.length ≤ maxLen ∧ ∀ e_ ∈ x.f5, W112 e_) ∧ (Lit.int .i64 x.f6).wf = true ∧ (Lit.int .i64 x.f7).wf = true ∧ (Lit.int .i64 x.f8).wf = true
def laws_FnExactCanReturnNow.Stmt : Prop := ∀ (y0 : S34), W34 y0 → ∃ k, laws_FnExactCanReturnNow.f k y0.f0.f0 y0.f0.f1 y0.f0.f2 y0.f1 y0.f2.f0 y0.f2.f1 y0.f3 y0.f4.f0 y0.f4.f1 y0.f4.f2 y0.f4.f3 y0.f5 y0.f6 y0.f7 y0.f8 = some true
end Go.Proofs.Yteiepphhkikmoaa.Q
