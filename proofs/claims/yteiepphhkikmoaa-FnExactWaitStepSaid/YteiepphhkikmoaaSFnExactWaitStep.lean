/- What is known of the arguments of the statement FnExactWaitStep, and its plain statement. -/
import Derived.Test.YteiepphhkikmoaaG26
namespace Go.Proofs.Yteiepphhkikmoaa.Q
open Go.RowKit Go.Proofs.YteiepphhkikmoaaW.PrintWords
structure S24 where
  f0 : Int
  f1 : Int
  f2 : (List Int)
def k24 : Kd S24 := Kd.iso (Kd.pair (Kd.int .i64) (Kd.pair (Kd.int .i64) (Kd.slice 3 (Kd.int .i64)))) (fun x : S24 => (x.f0, x.f1, x.f2))
structure S26 where
  f0 : Int
  f1 : Int
def k26 : Kd S26 := Kd.iso (Kd.pair (Kd.int .i64) (Kd.int .i64)) (fun x : S26 => (x.f0, x.f1))
structure S31 where
  f0 : Int
  f1 : Int
  f2 : (List S119)
  f3 : (List Bool)
def k31 : Kd S31 := Kd.iso (Kd.pair (Kd.int .i64) (Kd.pair (Kd.int .i64) (Kd.pair (Kd.slice 119 k119) (Kd.slice 4 Kd.bool)))) (fun x : S31 => (x.f0, x.f1, x.f2, x.f3))
def W24 (x : S24) : Prop := (Lit.int .i64 x.f0).wf = true /\ (Lit.int .i64 x.f1).wf = true /\ (x.f2.length <= maxLen /\ ∀ e_ ∈ x.f2, (Lit.int .i64 e_).wf = true)
def W26 (x : S26) : Prop := (Lit.int .i64 x.f0).wf = true /\ (Lit.int .i64 x.f1).wf = true
def W87 (x : S87) : Prop := (Lit.int .i64 x.f0).wf = true /\ (Lit.int .i64 x.f1).wf = true
def W119 (x : S119) : Prop := (Lit.int .i64 x.f0).wf = true /\ (Lit.int .i64 x.f1).wf = true /\ (Lit.int .i64 x.f2).wf = true /\ True
def W31 (x : S31) : Prop := (Lit.int .i64 x.f0).wf = true /\ (Lit.int .i64 x.f1).wf = true /\ (x.f2.length <= maxLen /\ ∀ e_ ∈ x.f2, W119 e_) /\ (x.f3.length <= maxLen /\ ∀ e_ ∈ x.f3, True)
def X2.Stmt : Prop := ∀ (y0 : S24) (a1 : Int) (y2 : S26) (y3 : (List S87)) (y4 : S31) (a5 : Bool), W24 y0 -> (Lit.int .i64 a1).wf = true -> W26 y2 -> (y3.length <= maxLen /\ ∀ e_ ∈ y3, W87 e_) -> W31 y4 -> True -> ∃ k, X2.f k y0.f0 y0.f1 y0.f2 a1 y2.f0 y2.f1 y3 y4.f0 y4.f1 y4.f2 y4.f3 a5 = some true
end Go.Proofs.Yteiepphhkikmoaa.Q
