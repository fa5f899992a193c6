/- The row of the statement FnExactWaitStep: its arguments are opened and handed to the walk of the law's function; what is computed there is true by the plain theorem. For every input that the statement speaks of; no further condition. -/
import Derived.Test.YteiepphhkikmoaaRows
import Derived.Test.YteiepphhkikmoaaHead
import Derived.Test.YteiepphhkikmoaaG26
import Derived.Test.YteiepphhkikmoaaPureFnExactWaitStep
import Derived.Test.YteiepphhkikmoaaOpens
import Derived.WalkKit
import Derived.ProofKit
import Derived.OpenShut
import Derived.ShutString
import Derived.ChangeOld
import Derived.Below
import Derived.SizedLaws
namespace Go.Proofs.Yteiepphhkikmoaa.fnExactWaitStep
open Go.ChangeShapes Go.WideShapes Go.ChangeAt Go.RowKit Go.Proofs.Yteiepphhkikmoaa.Q Go.Proofs.YteiepphhkikmoaaW.PrintWords Go.Proofs.YteiepphhkikmoaaW.Opens
set_option linter.unusedVariables false
set_option linter.unusedSimpArgs false
theorem own : ownKnob Try.prog.godebug = none := by kernel_rfl
theorem laidOut : laidOutB Try.prog = true := by kernel_rfl
theorem o24 : Opens Try.prog 24 k24 W24 := opens_struct (fun x : S24 => (x.f0, x.f1, x.f2)) (fun z => (⟨z.1, z.2.1, z.2.2⟩ : S24)) (fun _ => rfl) Try.underlying24 (by kernel_rfl) (opensF_cons rfl (by kernel_rfl) (opens_int Try.underlying3) (opensF_cons rfl (by kernel_rfl) (opens_int Try.underlying3) (opensF_one rfl (by kernel_rfl) (opens_slice Try.underlying22 (by kernel_rfl) (opens_int Try.underlying3)))))
theorem o26 : Opens Try.prog 26 k26 W26 := opens_struct (fun x : S26 => (x.f0, x.f1)) (fun z => (⟨z.1, z.2⟩ : S26)) (fun _ => rfl) Try.underlying26 (by kernel_rfl) (opensF_cons rfl (by kernel_rfl) (opens_int Try.underlying3) (opensF_one rfl (by kernel_rfl) (opens_int Try.underlying3)))
theorem o87 : Opens Try.prog 87 k87 W87 := opens_struct (fun x : S87 => (x.f0, x.f1)) (fun z => (⟨z.1, z.2⟩ : S87)) (fun _ => rfl) Try.underlying87 (by kernel_rfl) (opensF_cons rfl (by kernel_rfl) (opens_int Try.underlying3) (opensF_one rfl (by kernel_rfl) (opens_int Try.underlying3)))
theorem o119 : Opens Try.prog 119 k119 W119 := opens_struct (fun x : S119 => (x.f0, x.f1, x.f2, x.f3)) (fun z => (⟨z.1, z.2.1, z.2.2.1, z.2.2.2⟩ : S119)) (fun _ => rfl) Try.underlying119 (by kernel_rfl) (opensF_cons rfl (by kernel_rfl) (opens_int Try.underlying3) (opensF_cons rfl (by kernel_rfl) (opens_int Try.underlying3) (opensF_cons rfl (by kernel_rfl) (opens_int Try.underlying3) (opensF_one rfl (by kernel_rfl) (opens_bool Try.underlying4)))))
theorem o31 : Opens Try.prog 31 k31 W31 := opens_struct (fun x : S31 => (x.f0, x.f1, x.f2, x.f3)) (fun z => (⟨z.1, z.2.1, z.2.2.1, z.2.2.2⟩ : S31)) (fun _ => rfl) Try.underlying31 (by kernel_rfl) (opensF_cons rfl (by kernel_rfl) (opens_int Try.underlying3) (opensF_cons rfl (by kernel_rfl) (opens_int Try.underlying3) (opensF_cons rfl (by kernel_rfl) (opens_slice Try.underlying28 (by kernel_rfl) o119) (opensF_one rfl (by kernel_rfl) (opens_slice Try.underlying29 (by kernel_rfl) (opens_bool Try.underlying4))))))
set_option maxRecDepth 100000 in
theorem lifted (os : Os) (started : os.Started) (H : Type) (enc : TypeId × Value -> H) :
    ReturnsInHanded {} Try.checked os 5 .any (Rows.fnExactWaitStepSpec.pre6 enc Try.prog Try.f5 Rows.fnExactWaitStepRow.domain false) (Rows.fnExactWaitStepSpec.post enc Try.prog Try.f5 false true false false) := by
  refine returnsInHanded_of_change_sized (C := Try.checked) own started (by kernel_rfl) Try.func5
    (ChangeSpec.witness6 (enc := enc) (C := Try.checked) false ⟨#[], #[.agg #[.int .i64 0, .int .i64 0, .slice none 0 0], .int .i64 0, .agg #[.int .i64 0, .int .i64 0], .slice none 0 0, .agg #[.int .i64 0, .int .i64 0, .slice none 0 0, .slice none 0 0], .bool false], []⟩ 8 (by kernel_rfl) (by kernel_rfl) (by kernel_rfl) (by kernel_rfl)) ?_
  intro W base args ds gs before hval0 hW hcnd hsz0 _
  have hval : ∀ (j : Nat) t v, Try.f5.params[j]? = some t -> args[j]? = some v -> Value.okWide Try.prog W .any base t v := hval0
  have hW' := hW
  obtain ⟨p, q, hA0, hV, rfl, hfz, hnd⟩ := hW
  have hA : DataW.TrodAll enc Try.prog W 0 (fun _ => true) true Try.f5.params.toList args.toList ds p := hA0
  rw [Try.params5] at hA hval
  obtain ⟨v0, vs0, d0, ds0, p0, q0, hargs, rfl, rfl, h0, r0⟩ := trodAll_cons hA
  obtain ⟨v1, vs1, d1, ds1, p1, q1, rfl, rfl, rfl, h1, r1⟩ := trodAll_cons r0
  obtain ⟨v2, vs2, d2, ds2, p2, q2, rfl, rfl, rfl, h2, r2⟩ := trodAll_cons r1
  obtain ⟨v3, vs3, d3, ds3, p3, q3, rfl, rfl, rfl, h3, r3⟩ := trodAll_cons r2
  obtain ⟨v4, vs4, d4, ds4, p4, q4, rfl, rfl, rfl, h4, r4⟩ := trodAll_cons r3
  obtain ⟨v5, vs5, d5, ds5, p5, q5, rfl, rfl, rfl, h5, r5⟩ := trodAll_cons r4
  obtain ⟨rfl, rfl, rfl⟩ := trodAll_nil r5
  obtain rfl : args = #[v0, v1, v2, v3, v4, v5] := by cases args; simp_all
  obtain ⟨rfl, rfl⟩ := trodVars_none hV
  have lt0 : ∀ x ∈ p0, x.block < W.heap.size := by obtain ⟨m, hm⟩ := h0; exact DataW.trod_lt m _ _ _ hm
  obtain ⟨y0, hk0, hw0⟩ := opens_arg o24 h0
  obtain ⟨cs0, rfl, _⟩ := okWide_struct Try.underlying24 (hval 0 24 v0 rfl rfl)
  generalize hcs0 : (Value.agg cs0).cells.toList = L0 at hk0
  obtain ⟨_, _, rfl, rfl, ⟨_, _, rfl, rfl, ⟨A0_1, c0_1, rfl, hlc0_1, hC0_1⟩⟩⟩ := hk0
  obtain rfl : cs0 = #[.int .i64 y0.f0, .int .i64 y0.f1, .slice A0_1 y0.f2.length c0_1] := by
    have h_ : cs0.toList = _ := hcs0
    exact Array.toList_inj.mp h_
  have lt1 : ∀ x ∈ p1, x.block < W.heap.size := by obtain ⟨m, hm⟩ := h1; exact DataW.trod_lt m _ _ _ hm
  obtain ⟨y1, hk1, hw1⟩ := opens_arg (opens_int Try.underlying3) h1
  obtain ⟨a1, rfl⟩ := okWide_int Try.underlying3 (hval 1 3 v1 rfl rfl)
  obtain rfl : a1 = y1 := by simpa [Kd.int, Kd.scalar, Value.cells] using hk1
  have lt2 : ∀ x ∈ p2, x.block < W.heap.size := by obtain ⟨m, hm⟩ := h2; exact DataW.trod_lt m _ _ _ hm
  obtain ⟨y2, hk2, hw2⟩ := opens_arg o26 h2
  obtain ⟨cs2, rfl, _⟩ := okWide_struct Try.underlying26 (hval 2 26 v2 rfl rfl)
  generalize hcs2 : (Value.agg cs2).cells.toList = L2 at hk2
  obtain ⟨_, _, rfl, rfl, rfl⟩ := hk2
  obtain rfl : cs2 = #[.int .i64 y2.f0, .int .i64 y2.f1] := by
    have h_ : cs2.toList = _ := hcs2
    exact Array.toList_inj.mp h_
  have lt3 : ∀ x ∈ p3, x.block < W.heap.size := by obtain ⟨m, hm⟩ := h3; exact DataW.trod_lt m _ _ _ hm
  obtain ⟨y3, hk3, hw3⟩ := opens_arg (opens_slice Try.underlying27 (by kernel_rfl) o87) h3
  obtain ⟨a3, len3, cap3, rfl⟩ := okWide_slice Try.underlying27 (hval 3 27 v3 rfl rfl)
  obtain ⟨A3, c3, hc3, hlc3, hC3⟩ := hk3
  obtain ⟨rfl, rfl, rfl⟩ : a3 = A3 /\ len3 = y3.length /\ cap3 = c3 := by simpa [Value.cells] using hc3
  have lt4 : ∀ x ∈ p4, x.block < W.heap.size := by obtain ⟨m, hm⟩ := h4; exact DataW.trod_lt m _ _ _ hm
  obtain ⟨y4, hk4, hw4⟩ := opens_arg o31 h4
  obtain ⟨cs4, rfl, _⟩ := okWide_struct Try.underlying31 (hval 4 31 v4 rfl rfl)
  generalize hcs4 : (Value.agg cs4).cells.toList = L4 at hk4
  obtain ⟨_, _, rfl, rfl, ⟨_, _, rfl, rfl, ⟨_, _, rfl, ⟨A4_1, c4_1, rfl, hlc4_1, hC4_1⟩, ⟨A4_2, c4_2, rfl, hlc4_2, hC4_2⟩⟩⟩⟩ := hk4
  obtain rfl : cs4 = #[.int .i64 y4.f0, .int .i64 y4.f1, .slice A4_1 y4.f2.length c4_1, .slice A4_2 y4.f3.length c4_2] := by
    have h_ : cs4.toList = _ := hcs4
    exact Array.toList_inj.mp h_
  have lt5 : ∀ x ∈ p5, x.block < W.heap.size := by obtain ⟨m, hm⟩ := h5; exact DataW.trod_lt m _ _ _ hm
  obtain ⟨y5, hk5, hw5⟩ := opens_arg (opens_bool Try.underlying4) h5
  obtain ⟨a5, rfl⟩ := okWide_bool Try.underlying4 (hval 5 4 v5 rfl rfl)
  obtain rfl : a5 = y5 := by simpa [Kd.bool, Kd.scalar, Value.cells] using hk5
  obtain ⟨k_, hf⟩ := Pure.FnExactWaitStep y0 a1 y2 y3 y4 a5 hw0 hw1 hw2 hw3 hw4 hw5
  refine (X2.calls k_ y0.f0 y0.f1 A0_1 c0_1 y0.f2 a1 y2.f0 y2.f1 a3 cap3 y3 y4.f0 y4.f1 A4_1 c4_1 y4.f2 A4_2 c4_2 y4.f3 a5 true rfl W hC0_1 hlc0_1 hC3 hlc3 hC4_1 hlc4_1 hC4_2 hlc4_2 hf).mono fun e W' ⟨he, bel0⟩ => ?_
  have bel : Below W.heap.size W W' := bel0
  subst he
  exact ⟨_, rfl, _, _, _, [], _, [], hW', trodAll_mk1 (shut_bool Try.underlying4 _), (trodAll_cons_mk (Below.trod laidOut (by kernel_rfl) (of_decide_eq_true (by kernel_rfl)) h0 bel lt0) (trodAll_cons_mk (Below.trod laidOut (by kernel_rfl) (of_decide_eq_true (by kernel_rfl)) h1 bel lt1) (trodAll_cons_mk (Below.trod laidOut (by kernel_rfl) (of_decide_eq_true (by kernel_rfl)) h2 bel lt2) (trodAll_cons_mk (Below.trod laidOut (by kernel_rfl) (of_decide_eq_true (by kernel_rfl)) h3 bel lt3) (trodAll_cons_mk (Below.trod laidOut (by kernel_rfl) (of_decide_eq_true (by kernel_rfl)) h4 bel lt4) (trodAll_cons_mk (Below.trod laidOut (by kernel_rfl) (of_decide_eq_true (by kernel_rfl)) h5 bel lt5) trodAll_mk0)))))), rfl, bel.frame _, fun h => by cases h⟩
theorem closed : joinedFacts Try.prog 5 Try.f5 Rows.fnExactWaitStepSpec Rows.fnExactWaitStepRow = true := by
  unfold joinedFacts
  rw [Head.mayEnter, Head.liftsFinal, Head.make]
  kernel_rfl
theorem over : Rows.fnExactWaitStepRow.holds Try.pinned (OpenSpec.ofChange Rows.fnExactWaitStepSpec) :=
  OpenClaim.holds_of_wide 5 Try.f5 rfl rfl rfl rfl rfl rfl rfl ⟨rfl, rfl, rfl, rfl, rfl⟩ rfl rfl rfl rfl rfl (by kernel_rfl) Try.func5 closed
    (of_decide_eq_true (by kernel_rfl)) (by unfold Func.isWrapper; first | (rw [if_pos (by decide +kernel)]; kernel_rfl) | (rw [if_neg (by decide +kernel)]; exact ⟨rfl, rfl⟩))
    (fun os started H enc _ => lifted os started H enc)
theorem proved : Rows.FnExactWaitStepSaid := over
end Go.Proofs.Yteiepphhkikmoaa.fnExactWaitStep
namespace Go.Proofs.Yteiepphhkikmoaa
/-- The row, under a short name, for the claim. -/
theorem fnExactWaitStep_holds : Rows.FnExactWaitStepSaid := fnExactWaitStep.proved
end Go.Proofs.Yteiepphhkikmoaa
