/- The row of the statement FnExactEqualTreks: its arguments are opened and handed to the walk of the law's function; what is computed there is true by the plain theorem. For every input that the statement speaks of; no further condition. -/
import Derived.Test.YtegbddilobpeaaaRows
import Derived.Test.YtegbddilobpeaaaHead
import Derived.Test.YtegbddilobpeaaaG15
import Derived.Test.YtegbddilobpeaaaPureFnExactEqualTreks
import Derived.Test.YtegbddilobpeaaaOpens
import Derived.WalkKit
import Derived.ProofKit
import Derived.OpenShut
import Derived.ShutString
import Derived.ChangeOld
import Derived.Below
import Derived.SizedLaws
namespace Go.Proofs.Ytegbddilobpeaaa.fnExactEqualTreks
open Go.ChangeShapes Go.WideShapes Go.ChangeAt Go.RowKit Go.Proofs.Ytegbddilobpeaaa.Q Go.Proofs.YtegbddilobpeaaaW.PrintWords Go.Proofs.YtegbddilobpeaaaW.Opens
set_option linter.unusedVariables false
set_option linter.unusedSimpArgs false
theorem own : ownKnob Try.prog.godebug = none := by kernel_rfl
theorem laidOut : laidOutB Try.prog = true := by kernel_rfl
theorem o81 : Opens Try.prog 81 k81 W81 := opens_struct (fun x : S81 => (x.f0, x.f1, x.f2)) (fun z => (⟨z.1, z.2.1, z.2.2⟩ : S81)) (fun _ => rfl) Try.underlying81 (by kernel_rfl) (opensF_cons rfl (by kernel_rfl) (opens_int Try.underlying3) (opensF_cons rfl (by kernel_rfl) (opens_int Try.underlying3) (opensF_one rfl (by kernel_rfl) (opens_slice Try.underlying22 (by kernel_rfl) (opens_int Try.underlying3)))))
theorem o83 : Opens Try.prog 83 k83 W83 := opens_struct (fun x : S83 => (x.f0, x.f1)) (fun z => (⟨z.1, z.2⟩ : S83)) (fun _ => rfl) Try.underlying83 (by kernel_rfl) (opensF_cons rfl (by kernel_rfl) (opens_int Try.underlying3) (opensF_one rfl (by kernel_rfl) (opens_int Try.underlying3)))
theorem o154 : Opens Try.prog 154 k154 W154 := opens_struct (fun x : S154 => (x.f0, x.f1)) (fun z => (⟨z.1, z.2⟩ : S154)) (fun _ => rfl) Try.underlying154 (by kernel_rfl) (opensF_cons rfl (by kernel_rfl) (opens_int Try.underlying3) (opensF_one rfl (by kernel_rfl) (opens_int Try.underlying3)))
theorem o147 : Opens Try.prog 147 k147 W147 := opens_struct (fun x : S147 => (x.f0, x.f1, x.f2, x.f3)) (fun z => (⟨z.1, z.2.1, z.2.2.1, z.2.2.2⟩ : S147)) (fun _ => rfl) Try.underlying147 (by kernel_rfl) (opensF_cons rfl (by kernel_rfl) (opens_int Try.underlying3) (opensF_cons rfl (by kernel_rfl) (opens_int Try.underlying3) (opensF_cons rfl (by kernel_rfl) (opens_int Try.underlying3) (opensF_one rfl (by kernel_rfl) (opens_bool Try.underlying4)))))
theorem o62 : Opens Try.prog 62 k62 W62 := opens_struct (fun x : S62 => (x.f0, x.f1, x.f2, x.f3)) (fun z => (⟨z.1, z.2.1, z.2.2.1, z.2.2.2⟩ : S62)) (fun _ => rfl) Try.underlying62 (by kernel_rfl) (opensF_cons rfl (by kernel_rfl) (opens_int Try.underlying3) (opensF_cons rfl (by kernel_rfl) (opens_int Try.underlying3) (opensF_cons rfl (by kernel_rfl) (opens_slice Try.underlying59 (by kernel_rfl) o147) (opensF_one rfl (by kernel_rfl) (opens_slice Try.underlying60 (by kernel_rfl) (opens_bool Try.underlying4))))))
theorem o156 : Opens Try.prog 156 k156 W156 := opens_struct (fun x : S156 => (x.f0, x.f1, x.f2, x.f3)) (fun z => (⟨z.1, z.2.1, z.2.2.1, z.2.2.2⟩ : S156)) (fun _ => rfl) Try.underlying156 (by kernel_rfl) (opensF_cons rfl (by kernel_rfl) (opens_int Try.underlying3) (opensF_cons rfl (by kernel_rfl) (opens_int Try.underlying3) (opensF_cons rfl (by kernel_rfl) (opens_int Try.underlying3) (opensF_one rfl (by kernel_rfl) (opens_int Try.underlying3)))))
theorem o87 : Opens Try.prog 87 k87 W87 := opens_struct (fun x : S87 => (x.f0, x.f1, x.f2, x.f3, x.f4, x.f5, x.f6, x.f7, x.f8)) (fun z => (⟨z.1, z.2.1, z.2.2.1, z.2.2.2.1, z.2.2.2.2.1, z.2.2.2.2.2.1, z.2.2.2.2.2.2.1, z.2.2.2.2.2.2.2.1, z.2.2.2.2.2.2.2.2⟩ : S87)) (fun _ => rfl) Try.underlying87 (by kernel_rfl) (opensF_cons rfl (by kernel_rfl) o81 (opensF_cons rfl (by kernel_rfl) (opens_int Try.underlying3) (opensF_cons rfl (by kernel_rfl) o83 (opensF_cons rfl (by kernel_rfl) (opens_slice Try.underlying84 (by kernel_rfl) o154) (opensF_cons rfl (by kernel_rfl) o62 (opensF_cons rfl (by kernel_rfl) (opens_slice Try.underlying85 (by kernel_rfl) o156) (opensF_cons rfl (by kernel_rfl) (opens_int Try.underlying3) (opensF_cons rfl (by kernel_rfl) (opens_int Try.underlying3) (opensF_one rfl (by kernel_rfl) (opens_int Try.underlying3))))))))))
set_option maxRecDepth 100000 in
theorem lifted (os : Os) (started : os.Started) (H : Type) (enc : TypeId × Value → H) :
    ReturnsInHanded {} Try.checked os 12 .any (Rows.fnExactEqualTreksSpec.pre6 enc Try.prog Try.f12 Rows.fnExactEqualTreksRow.domain false) (Rows.fnExactEqualTreksSpec.post enc Try.prog Try.f12 false true false false) := by
  refine returnsInHanded_of_change_sized (C := Try.checked) own started (by kernel_rfl) Try.func12
    (ChangeSpec.witness6 (enc := enc) (C := Try.checked) false ⟨#[], #[.agg #[.int .i64 0, .int .i64 0, .slice none 0 0, .int .i64 0, .int .i64 0, .int .i64 0, .slice none 0 0, .int .i64 0, .int .i64 0, .slice none 0 0, .slice none 0 0, .slice none 0 0, .int .i64 0, .int .i64 0, .int .i64 0], .agg #[.int .i64 0, .int .i64 0, .slice none 0 0, .int .i64 0, .int .i64 0, .int .i64 0, .slice none 0 0, .int .i64 0, .int .i64 0, .slice none 0 0, .slice none 0 0, .slice none 0 0, .int .i64 0, .int .i64 0, .int .i64 0]], []⟩ 8 (by kernel_rfl) (by kernel_rfl) (by kernel_rfl) (by kernel_rfl)) ?_
  intro W base args ds gs before hval0 hW hcnd hsz0 _
  have hval : ∀ (j : Nat) t v, Try.f12.params[j]? = some t → args[j]? = some v → Value.okWide Try.prog W .any base t v := hval0
  have hW' := hW
  obtain ⟨p, q, hA0, hV, rfl, hfz, hnd⟩ := hW
  have hA : DataW.TrodAll enc Try.prog W 0 (fun _ => true) true Try.f12.params.toList args.toList ds p := hA0
  rw [Try.params12] at hA hval
  obtain ⟨v0, vs0, d0, ds0, p0, q0, hargs, rfl, rfl, h0, r0⟩ := trodAll_cons hA
  obtain ⟨v1, vs1, d1, ds1, p1, q1, rfl, rfl, rfl, h1, r1⟩ := trodAll_cons r0
  obtain ⟨rfl, rfl, rfl⟩ := trodAll_nil r1
  obtain rfl : args = #[v0, v1] := by cases args; simp_all
  obtain ⟨rfl, rfl⟩ := trodVars_none hV
  have lt0 : ∀ x ∈ p0, x.block < W.heap.size := by obtain ⟨m, hm⟩ := h0; exact DataW.trod_lt m _ _ _ hm
  obtain ⟨y0, hk0, hw0⟩ := opens_arg o87 h0
  obtain ⟨cs0, rfl, _⟩ := okWide_struct Try.underlying87 (hval 0 87 v0 rfl rfl)
  generalize hcs0 : (Value.agg cs0).cells.toList = L0 at hk0
  obtain ⟨_, _, rfl, ⟨_, _, rfl, rfl, ⟨_, _, rfl, rfl, ⟨A0_1, c0_1, rfl, hlc0_1, hC0_1⟩⟩⟩, ⟨_, _, rfl, rfl, ⟨_, _, rfl, ⟨_, _, rfl, rfl, rfl⟩, ⟨_, _, rfl, ⟨A0_2, c0_2, rfl, hlc0_2, hC0_2⟩, ⟨_, _, rfl, ⟨_, _, rfl, rfl, ⟨_, _, rfl, rfl, ⟨_, _, rfl, ⟨A0_3, c0_3, rfl, hlc0_3, hC0_3⟩, ⟨A0_4, c0_4, rfl, hlc0_4, hC0_4⟩⟩⟩⟩, ⟨_, _, rfl, ⟨A0_5, c0_5, rfl, hlc0_5, hC0_5⟩, ⟨_, _, rfl, rfl, ⟨_, _, rfl, rfl, rfl⟩⟩⟩⟩⟩⟩⟩⟩ := hk0
  obtain rfl : cs0 = #[.int .i64 y0.f0.f0, .int .i64 y0.f0.f1, .slice A0_1 y0.f0.f2.length c0_1, .int .i64 y0.f1, .int .i64 y0.f2.f0, .int .i64 y0.f2.f1, .slice A0_2 y0.f3.length c0_2, .int .i64 y0.f4.f0, .int .i64 y0.f4.f1, .slice A0_3 y0.f4.f2.length c0_3, .slice A0_4 y0.f4.f3.length c0_4, .slice A0_5 y0.f5.length c0_5, .int .i64 y0.f6, .int .i64 y0.f7, .int .i64 y0.f8] := by
    have h_ : cs0.toList = _ := hcs0
    exact Array.toList_inj.mp h_
  have lt1 : ∀ x ∈ p1, x.block < W.heap.size := by obtain ⟨m, hm⟩ := h1; exact DataW.trod_lt m _ _ _ hm
  obtain ⟨y1, hk1, hw1⟩ := opens_arg o87 h1
  obtain ⟨cs1, rfl, _⟩ := okWide_struct Try.underlying87 (hval 1 87 v1 rfl rfl)
  generalize hcs1 : (Value.agg cs1).cells.toList = L1 at hk1
  obtain ⟨_, _, rfl, ⟨_, _, rfl, rfl, ⟨_, _, rfl, rfl, ⟨A1_1, c1_1, rfl, hlc1_1, hC1_1⟩⟩⟩, ⟨_, _, rfl, rfl, ⟨_, _, rfl, ⟨_, _, rfl, rfl, rfl⟩, ⟨_, _, rfl, ⟨A1_2, c1_2, rfl, hlc1_2, hC1_2⟩, ⟨_, _, rfl, ⟨_, _, rfl, rfl, ⟨_, _, rfl, rfl, ⟨_, _, rfl, ⟨A1_3, c1_3, rfl, hlc1_3, hC1_3⟩, ⟨A1_4, c1_4, rfl, hlc1_4, hC1_4⟩⟩⟩⟩, ⟨_, _, rfl, ⟨A1_5, c1_5, rfl, hlc1_5, hC1_5⟩, ⟨_, _, rfl, rfl, ⟨_, _, rfl, rfl, rfl⟩⟩⟩⟩⟩⟩⟩⟩ := hk1
  obtain rfl : cs1 = #[.int .i64 y1.f0.f0, .int .i64 y1.f0.f1, .slice A1_1 y1.f0.f2.length c1_1, .int .i64 y1.f1, .int .i64 y1.f2.f0, .int .i64 y1.f2.f1, .slice A1_2 y1.f3.length c1_2, .int .i64 y1.f4.f0, .int .i64 y1.f4.f1, .slice A1_3 y1.f4.f2.length c1_3, .slice A1_4 y1.f4.f3.length c1_4, .slice A1_5 y1.f5.length c1_5, .int .i64 y1.f6, .int .i64 y1.f7, .int .i64 y1.f8] := by
    have h_ : cs1.toList = _ := hcs1
    exact Array.toList_inj.mp h_
  obtain ⟨k_, hf⟩ := Pure.FnExactEqualTreks y0 y1 hw0 hw1
  refine (laws_FnExactEqualTreks.calls k_ y0.f0.f0 y0.f0.f1 A0_1 c0_1 y0.f0.f2 y0.f1 y0.f2.f0 y0.f2.f1 A0_2 c0_2 y0.f3 y0.f4.f0 y0.f4.f1 A0_3 c0_3 y0.f4.f2 A0_4 c0_4 y0.f4.f3 A0_5 c0_5 y0.f5 y0.f6 y0.f7 y0.f8 y1.f0.f0 y1.f0.f1 A1_1 c1_1 y1.f0.f2 y1.f1 y1.f2.f0 y1.f2.f1 A1_2 c1_2 y1.f3 y1.f4.f0 y1.f4.f1 A1_3 c1_3 y1.f4.f2 A1_4 c1_4 y1.f4.f3 A1_5 c1_5 y1.f5 y1.f6 y1.f7 y1.f8 true rfl W hC0_1 hlc0_1 hC0_2 hlc0_2 hC0_3 hlc0_3 hC0_4 hlc0_4 hC0_5 hlc0_5 hC1_1 hlc1_1 hC1_2 hlc1_2 hC1_3 hlc1_3 hC1_4 hlc1_4 hC1_5 hlc1_5 hf).mono fun e W' ⟨he, bel0⟩ => ?_
  have bel : Below W.heap.size W W' := bel0
  subst he
  exact ⟨_, rfl, _, _, _, [], _, [], hW', trodAll_mk1 (shut_bool Try.underlying4 _), (trodAll_cons_mk (Below.trod laidOut (by kernel_rfl) (of_decide_eq_true (by kernel_rfl)) h0 bel lt0) (trodAll_cons_mk (Below.trod laidOut (by kernel_rfl) (of_decide_eq_true (by kernel_rfl)) h1 bel lt1) trodAll_mk0)), rfl, bel.frame _, fun h => by cases h⟩
theorem closed : joinedFacts Try.prog 12 Try.f12 Rows.fnExactEqualTreksSpec Rows.fnExactEqualTreksRow = true := by
  unfold joinedFacts
  rw [Head.mayEnter, Head.liftsFinal, Head.make]
  kernel_rfl
theorem over : Rows.fnExactEqualTreksRow.holds Try.pinned (OpenSpec.ofChange Rows.fnExactEqualTreksSpec) :=
  OpenClaim.holds_of_wide 12 Try.f12 rfl rfl rfl rfl rfl rfl rfl ⟨rfl, rfl, rfl, rfl, rfl⟩ rfl rfl rfl rfl rfl (by kernel_rfl) Try.func12 closed
    (of_decide_eq_true (by kernel_rfl)) (by unfold Func.isWrapper; first | (rw [if_pos (by decide +kernel)]; kernel_rfl) | (rw [if_neg (by decide +kernel)]; exact ⟨rfl, rfl⟩))
    (fun os started H enc _ => lifted os started H enc)
theorem proved : Rows.FnExactEqualTreksSaid := over
end Go.Proofs.Ytegbddilobpeaaa.fnExactEqualTreks
namespace Go.Proofs.Ytegbddilobpeaaa
/-- The row, under a short name, for the claim. -/
theorem fnExactEqualTreks_holds : Rows.FnExactEqualTreksSaid := fnExactEqualTreks.proved
end Go.Proofs.Ytegbddilobpeaaa
