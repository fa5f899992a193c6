/- The movers of Zip, their search at reducible transparency (without it a row behind eight stores takes minutes). -/
import Derived.Test.YtegbddilobpeaaaZip
namespace Go.Proofs.YtegbddilobpeaaaW.Zip
open Go.RowKit Go.Proofs.YtegbddilobpeaaaW.PrintWords Go.Proofs.YtegbddilobpeaaaW.PrintLast Go.Proofs.YtegbddilobpeaaaW.PrintMore
set_option linter.unusedVariables false
section
variable {α : Type} {d : Kd α} {e base g g2 g3 t t2 t3 : Nat} {ok : Nat → Prop} {w W : World} {v : Value} {xs : List α} {c c2 c3 : Array Value}
theorem zF1r (x : Aside0 (d.R e w base ok v xs)) (b : Aside0 (w.heap[g]? = some (.cells c t (0, 0)))) (ht : ∀ q, q ∈ e :: d.E → q ≠ t := by decide)
    (m : Moved (fun k => k = g) w W := by with_reducible repeat (first | exact Moved.refl | apply Moved.s1 | apply Moved.alloc | apply Moved.drewN | apply Moved.drew)) {ok' : Nat → Prop} (hok : ∀ k, ok k → ok' k := by first | exact fun _ h_ => h_ | exact fun _ _ => trivial | exact fun _ h_ => h_.1) : d.R e W base ok' v xs :=
  Kd.R_mono (Kd.R_step (Kd.R_types x.out b.out ht) (fun k hk hl => m.heap.2 k hk.2 hl)) (fun _ hk => hok _ hk.1)
theorem zF2r (x : Aside0 (d.R e w base ok v xs)) (b : Aside0 (w.heap[g]? = some (.cells c t (0, 0)))) (b2 : Aside0 (w.heap[g2]? = some (.cells c2 t2 (0, 0)))) (ht : ∀ q, q ∈ e :: d.E → q ≠ t := by decide) (ht2 : ∀ q, q ∈ e :: d.E → q ≠ t2 := by decide)
    (m : Moved (fun k => k = g ∨ k = g2) w W := by with_reducible repeat (first | exact Moved.refl | apply Moved.s2 | apply Moved.s2b | apply Moved.alloc | apply Moved.drewN | apply Moved.drew)) {ok' : Nat → Prop} (hok : ∀ k, ok k → ok' k := by first | exact fun _ h_ => h_ | exact fun _ _ => trivial | exact fun _ h_ => h_.1) : d.R e W base ok' v xs :=
  Kd.R_mono (Kd.R_step (Kd.R_types (Kd.R_types x.out b.out ht) b2.out ht2) (fun k hk hl => m.heap.2 k (fun h => h.elim hk.1.2 hk.2) hl)) (fun _ hk => hok _ hk.1.1)
theorem zF3r (x : Aside0 (d.R e w base ok v xs)) (b : Aside0 (w.heap[g]? = some (.cells c t (0, 0)))) (b2 : Aside0 (w.heap[g2]? = some (.cells c2 t2 (0, 0)))) (b3 : Aside0 (w.heap[g3]? = some (.cells c3 t3 (0, 0)))) (ht : ∀ q, q ∈ e :: d.E → q ≠ t := by decide) (ht2 : ∀ q, q ∈ e :: d.E → q ≠ t2 := by decide) (ht3 : ∀ q, q ∈ e :: d.E → q ≠ t3 := by decide)
    (m : Moved (fun k => k = g ∨ k = g2 ∨ k = g3) w W := by with_reducible repeat (first | exact Moved.refl | apply Moved.s3 | apply Moved.s3b | apply Moved.s3c | apply Moved.alloc | apply Moved.drewN | apply Moved.drew)) {ok' : Nat → Prop} (hok : ∀ k, ok k → ok' k := by first | exact fun _ h_ => h_ | exact fun _ _ => trivial | exact fun _ h_ => h_.1) : d.R e W base ok' v xs :=
  Kd.R_mono (Kd.R_step (Kd.R_types (Kd.R_types (Kd.R_types x.out b.out ht) b2.out ht2) b3.out ht3) (fun k hk hl => m.heap.2 k (fun h => h.elim hk.1.1.2 (fun h => h.elim hk.1.2 hk.2)) hl)) (fun _ hk => hok _ hk.1.1.1)
theorem zG1r (x : Aside0 (d.Q e w base ok v xs)) (b : Aside0 (w.heap[g]? = some (.cells c t (0, 0)))) (ht : ∀ q, q ∈ e :: d.E → q ≠ t := by decide)
    (m : Moved (fun k => k = g) w W := by with_reducible repeat (first | exact Moved.refl | apply Moved.s1 | apply Moved.alloc | apply Moved.drewN | apply Moved.drew)) {ok' : Nat → Prop} (hok : ∀ k, ok k → ok' k := by first | exact fun _ h_ => h_ | exact fun _ _ => trivial | exact fun _ h_ => h_.1) : d.Q e W base ok' v xs :=
  Kd.Q_mono (Kd.Q_step (Kd.Q_types x.out b.out ht) (fun k hk hl => m.heap.2 k hk.2 hl)) (fun _ hk => hok _ hk.1)
theorem zG2r (x : Aside0 (d.Q e w base ok v xs)) (b : Aside0 (w.heap[g]? = some (.cells c t (0, 0)))) (b2 : Aside0 (w.heap[g2]? = some (.cells c2 t2 (0, 0)))) (ht : ∀ q, q ∈ e :: d.E → q ≠ t := by decide) (ht2 : ∀ q, q ∈ e :: d.E → q ≠ t2 := by decide)
    (m : Moved (fun k => k = g ∨ k = g2) w W := by with_reducible repeat (first | exact Moved.refl | apply Moved.s2 | apply Moved.s2b | apply Moved.alloc | apply Moved.drewN | apply Moved.drew)) {ok' : Nat → Prop} (hok : ∀ k, ok k → ok' k := by first | exact fun _ h_ => h_ | exact fun _ _ => trivial | exact fun _ h_ => h_.1) : d.Q e W base ok' v xs :=
  Kd.Q_mono (Kd.Q_step (Kd.Q_types (Kd.Q_types x.out b.out ht) b2.out ht2) (fun k hk hl => m.heap.2 k (fun h => h.elim hk.1.2 hk.2) hl)) (fun _ hk => hok _ hk.1.1)
theorem zG3r (x : Aside0 (d.Q e w base ok v xs)) (b : Aside0 (w.heap[g]? = some (.cells c t (0, 0)))) (b2 : Aside0 (w.heap[g2]? = some (.cells c2 t2 (0, 0)))) (b3 : Aside0 (w.heap[g3]? = some (.cells c3 t3 (0, 0)))) (ht : ∀ q, q ∈ e :: d.E → q ≠ t := by decide) (ht2 : ∀ q, q ∈ e :: d.E → q ≠ t2 := by decide) (ht3 : ∀ q, q ∈ e :: d.E → q ≠ t3 := by decide)
    (m : Moved (fun k => k = g ∨ k = g2 ∨ k = g3) w W := by with_reducible repeat (first | exact Moved.refl | apply Moved.s3 | apply Moved.s3b | apply Moved.s3c | apply Moved.alloc | apply Moved.drewN | apply Moved.drew)) {ok' : Nat → Prop} (hok : ∀ k, ok k → ok' k := by first | exact fun _ h_ => h_ | exact fun _ _ => trivial | exact fun _ h_ => h_.1) : d.Q e W base ok' v xs :=
  Kd.Q_mono (Kd.Q_step (Kd.Q_types (Kd.Q_types (Kd.Q_types x.out b.out ht) b2.out ht2) b3.out ht3) (fun k hk hl => m.heap.2 k (fun h => h.elim hk.1.1.2 (fun h => h.elim hk.1.2 hk.2)) hl)) (fun _ hk => hok _ hk.1.1.1)
end
end Go.Proofs.YtegbddilobpeaaaW.Zip
