/- What is known of the arguments of the statement FnExactEqualTreks, and its plain statement. -/
import Derived.Test.YtegbddilobpeaaaG15
namespace Go.Proofs.Ytegbddilobpeaaa.Q
open Go.RowKit Go.Proofs.YtegbddilobpeaaaW.PrintWords
structure S81 where
  f0 : Int
  f1 : Int
  f2 : (List Int)
def k81 : Kd S81 := Kd.iso (Kd.pair (Kd.int .i64) (Kd.pair (Kd.int .i64) (Kd.slice 3 (Kd.int .i64)))) (fun x : S81 => (x.f0, x.f1, x.f2))
structure S83 where
  f0 : Int
  f1 : Int
def k83 : Kd S83 := Kd.iso (Kd.pair (Kd.int .i64) (Kd.int .i64)) (fun x : S83 => (x.f0, x.f1))
structure S62 where
  f0 : Int
  f1 : Int
  f2 : (List S147)
  f3 : (List Bool)
def k62 : Kd S62 := Kd.iso (Kd.pair (Kd.int .i64) (Kd.pair (Kd.int .i64) (Kd.pair (Kd.slice 147 k147) (Kd.slice 4 Kd.bool)))) (fun x : S62 => (x.f0, x.f1, x.f2, x.f3))
structure S87 where
  f0 : S81
  f1 : Int
  f2 : S83
  f3 : (List S154)
  f4 : S62
  f5 : (List S156)
  f6 : Int
  f7 : Int
  f8 : Int
def k87 : Kd S87 := Kd.iso (Kd.pair k81 (Kd.pair (Kd.int .i64) (Kd.pair k83 (Kd.pair (Kd.slice 154 k154) (Kd.pair k62 (Kd.pair (Kd.slice 156 k156) (Kd.pair (Kd.int .i64) (Kd.pair (Kd.int .i64) (Kd.int .i64))))))))) (fun x : S87 => (x.f0, x.f1, x.f2, x.f3, x.f4, x.f5, x.f6, x.f7, x.f8))
def W81 (x : S81) : Prop := (Lit.int .i64 x.f0).wf = true ∧ (Lit.int .i64 x.f1).wf = true ∧ (x.f2.length ≤ maxLen ∧ ∀ e_ ∈ x.f2, (Lit.int .i64 e_).wf = true)
def W83 (x : S83) : Prop := (Lit.int .i64 x.f0).wf = true ∧ (Lit.int .i64 x.f1).wf = true
def W154 (x : S154) : Prop := (Lit.int .i64 x.f0).wf = true ∧ (Lit.int .i64 x.f1).wf = true
def W147 (x : S147) : Prop := (Lit.int .i64 x.f0).wf = true ∧ (Lit.int .i64 x.f1).wf = true ∧ (Lit.int .i64 x.f2).wf = true ∧ True
def W62 (x : S62) : Prop := (Lit.int .i64 x.f0).wf = true ∧ (Lit.int .i64 x.f1).wf = true ∧ (x.f2.length ≤ maxLen ∧ ∀ e_ ∈ x.f2, W147 e_) ∧ (x.f3.length ≤ maxLen ∧ ∀ e_ ∈ x.f3, True)
def W156 (x : S156) : Prop := (Lit.int .i64 x.f0).wf = true ∧ (Lit.int .i64 x.f1).wf = true ∧ (Lit.int .i64 x.f2).wf = true ∧ (Lit.int .i64 x.f3).wf = true
def W87 (x : S87) : Prop := W81 x.f0 ∧ (Lit.int .i64 x.f1).wf = true ∧ W83 x.f2 ∧ (x.f3.length ≤ maxLen ∧ ∀ e_ ∈ x.f3, W154 e_) ∧ W62 x.f4 ∧ (x.f5.length ≤ maxLen ∧ ∀ e_ ∈ x.f5, W156 e_) ∧ (Lit.int .i64 x.f6).wf = true ∧ (Lit.int .i64 x.f7).wf = true ∧ (Lit.int .i64 x.f8).wf = true
def laws_FnExactEqualTreks.Stmt : Prop := ∀ (y0 : S87) (y1 : S87), W87 y0 → W87 y1 → ∃ k, laws_FnExactEqualTreks.f k y0.f0.f0 y0.f0.f1 y0.f0.f2 y0.f1 y0.f2.f0 y0.f2.f1 y0.f3 y0.f4.f0 y0.f4.f1 y0.f4.f2 y0.f4.f3 y0.f5 y0.f6 y0.f7 y0.f8 y1.f0.f0 y1.f0.f1 y1.f0.f2 y1.f1 y1.f2.f0 y1.f2.f1 y1.f3 y1.f4.f0 y1.f4.f1 y1.f4.f2 y1.f4.f3 y1.f5 y1.f6 y1.f7 y1.f8 = some true
end Go.Proofs.Ytegbddilobpeaaa.Q
