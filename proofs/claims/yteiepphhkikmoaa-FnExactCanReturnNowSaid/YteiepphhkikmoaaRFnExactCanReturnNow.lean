/- The row of the statement FnExactCanReturnNow: its arguments are opened and handed to the walk of the law's function; what is computed there is true by the plain theorem. For every input that the statement speaks of; no further condition. -/
import Derived.Test.YteiepphhkikmoaaRows
import Derived.Test.YteiepphhkikmoaaHead
import Derived.Test.YteiepphhkikmoaaG15
import Derived.Test.YteiepphhkikmoaaPureFnExactCanReturnNow
import Derived.Test.YteiepphhkikmoaaOpens
import Derived.WalkKit
import Derived.ProofKit
import Derived.OpenShut
import Derived.ShutString
import Derived.ChangeOld
import Derived.Below
import Derived.SizedLaws
namespace Go.Proofs.Yteiepphhkikmoaa.fnExactCanReturnNow
open Go.ChangeShapes Go.WideShapes Go.ChangeAt Go.RowKit Go.Proofs.Yteiepphhkikmoaa.Q Go.Proofs.YteiepphhkikmoaaW.PrintWords Go.Proofs.YteiepphhkikmoaaW.Opens
set_option linter.unusedVariables false
set_option linter.unusedSimpArgs false
theorem own : ownKnob Try.prog.godebug = none := by kernel_rfl
theorem laidOut : laidOutB Try.prog = true := by kernel_rfl
theorem o24 : Opens Try.prog 24 k24 W24 := opens_struct (fun x : S24 => (x.f0, x.f1, x.f2)) (fun z => (⟨z.1, z.2.1, z.2.2⟩ : S24)) (fun _ => rfl) Try.underlying24 (by kernel_rfl) (opensF_cons rfl (by kernel_rfl) (opens_int Try.underlying3) (opensF_cons rfl (by kernel_rfl) (opens_int Try.underlying3) (opensF_one rfl (by kernel_rfl) (opens_slice Try.underlying22 (by kernel_rfl) (opens_int Try.underlying3)))))
theorem o26 : Opens Try.prog 26 k26 W26 := opens_struct (fun x : S26 => (x.f0, x.f1)) (fun z => (⟨z.1, z.2⟩ : S26)) (fun _ => rfl) Try.underlying26 (by kernel_rfl) (opensF_cons rfl (by kernel_rfl) (opens_int Try.underlying3) (opensF_one rfl (by kernel_rfl) (opens_int Try.underlying3)))
theorem o87 : Opens Try.prog 87 k87 W87 := opens_struct (fun x : S87 => (x.f0, x.f1)) (fun z => (⟨z.1, z.2⟩ : S87)) (fun _ => rfl) Try.underlying87 (by kernel_rfl) (opensF_cons rfl (by kernel_rfl) (opens_int Try.underlying3) (opensF_one rfl (by kernel_rfl) (opens_int Try.underlying3)))
theorem o119 : Opens Try.prog 119 k119 W119 := opens_struct (fun x : S119 => (x.f0, x.f1, x.f2, x.f3)) (fun z => (⟨z.1, z.2.1, z.2.2.1, z.2.2.2⟩ : S119)) (fun _ => rfl) Try.underlying119 (by kernel_rfl) (opensF_cons rfl (by kernel_rfl) (opens_int Try.underlying3) (opensF_cons rfl (by kernel_rfl) (opens_int Try.underlying3) (opensF_cons rfl (by kernel_rfl) (opens_int Try.underlying3) (opensF_one rfl (by kernel_rfl) (opens_bool Try.underlying4)))))
theorem o31 : Opens Try.prog 31 k31 W31 := opens_struct (fun x : S31 => (x.f0, x.f1, x.f2, x.f3)) (fun z => (⟨z.1, z.2.1, z.2.2.1, z.2.2.2⟩ : S31)) (fun _ => rfl) Try.underlying31 (by kernel_rfl) (opensF_cons rfl (by kernel_rfl) (opens_int Try.underlying3) (opensF_cons rfl (by kernel_rfl) (opens_int Try.underlying3) (opensF_cons rfl (by kernel_rfl) (opens_slice Try.underlying28 (by kernel_rfl) o119) (opensF_one rfl (by kernel_rfl) (opens_slice Try.underlying29 (by kernel_rfl) (opens_bool Try.underlying4))))))
theorem o112 : Opens Try.prog 112 k112 W112 := opens_struct (fun x : S112 => (x.f0, x.f1, x.f2, x.f3)) (fun z => (⟨z.1, z.2.1, z.2.2.1, z.2.2.2⟩ : S112)) (fun _ => rfl) Try.underlying112 (by kernel_rfl) (opensF_cons rfl (by kernel_rfl) (opens_int Try.underlying3) (opensF_cons rfl (by kernel_rfl) (opens_int Try.underlying3) (opensF_cons rfl (by kernel_rfl) (opens_int Try.underlying3) (opensF_one rfl (by kernel_rfl) (opens_int Try.underlying3)))))
theorem o34 : Opens Try.prog 34 k34 W34 := opens_struct (fun x : S34 => (x.f0, x.f1, x.f2, x.f3, x.f4, x.f5, x.f6, x.f7, x.f8)) (fun z => (⟨z.1, z.2.1, z.2.2.1, z.2.2.2.1, z.2.2.2.2.1, z.2.2.2.2.2.1, z.2.2.2.2.2.2.1, z.2.2.2.2.2.2.2.1, z.2.2.2.2.2.2.2.2⟩ : S34)) (fun _ => rfl) Try.underlying34 (by kernel_rfl) (opensF_cons rfl (by kernel_rfl) o24 (opensF_cons rfl (by kernel_rfl) (opens_int Try.underlying3) (opensF_cons rfl (by kernel_rfl) o26 (opensF_cons rfl (by kernel_rfl) (opens_slice Try.underlying27 (by kernel_rfl) o87) (opensF_cons rfl (by kernel_rfl) o31 (opensF_cons rfl (by kernel_rfl) (opens_slice Try.underlying32 (by kernel_rfl) o112) (opensF_cons rfl (by kernel_rfl) (opens_int Try.underlying3) (opensF_cons rfl (by kernel_rfl) (opens_int Try.underlying3) (opensF_one rfl (by kernel_rfl) (opens_int Try.underlying3))))))))))
set_option maxRecDepth 100000 in
theorem lifted (os : Os) (started : os.Started) (H : Type) (enc : TypeId × Value → H) :
    ReturnsInHanded {} Try.checked os 3 .any (Rows.fnExactCanReturnNowSpec.pre6 enc Try.prog Try.f3 Rows.fnExactCanReturnNowRow.domain false) (Rows.fnExactCanReturnNowSpec.post enc Try.prog Try.f3 false true false false) := by
  refine returnsInHanded_of_change_sized (C := Try.checked) own started (by kernel_rfl) Try.func3
    (ChangeSpec.witness6 (enc := enc) (C := Try.checked) false ⟨#[], #[.agg #[.int .i64 0, .int .i64 0, .slice none 0 0, .int .i64 0, .int .i64 0, .int .i64 0, .slice none 0 0, .int .i64 0, .int .i64 0, .slice none 0 0, .slice none 0 0, .slice none 0 0, .int .i64 0, .int .i64 0, .int .i64 0]], []⟩ 8 (by kernel_rfl) (by kernel_rfl) (by kernel_rfl) (by kernel_rfl)) ?_
  intro W base args ds gs before hval0 hW hcnd hsz0 _
  have hval : ∀ (j : Nat) t v, Try.f3.params[j]? = some t → args[j]? = some v → Value.okWide Try.prog W .any base t v := hval0
  have hW' := hW
  obtain ⟨p, q, hA0, hV, rfl, hfz, hnd⟩ := hW
  have hA : DataW.TrodAll enc Try.prog W 0 (fun _ => true) true Try.f3.params.toList args.toList ds p := hA0
  rw [Try.params3] at hA hval
  obtain ⟨v0, vs0, d0, ds0, p0, q0, hargs, rfl, rfl, h0, r0⟩ := trodAll_cons hA
  obtain ⟨rfl, rfl, rfl⟩ := trodAll_nil r0
  obtain rfl : args = #[v0] := by cases args; simp_all
  obtain ⟨rfl, rfl⟩ := trodVars_none hV
  have lt0 : ∀ x ∈ p0, x.block < W.heap.size := by obtain ⟨m, hm⟩ := h0; exact DataW.trod_lt m _ _ _ hm
  obtain ⟨y0, hk0, hw0⟩ := opens_arg o34 h0
  obtain ⟨cs0, rfl, _⟩ := okWide_struct Try.underlying34 (hval 0 34 v0 rfl rfl)
  generalize hcs0 : (Value.agg cs0).cells.toList = L0 at hk0
  obtain ⟨_, _, rfl, ⟨_, _, rfl, rfl, ⟨_, _, rfl, rfl, ⟨A0_1, c0_1, rfl, hlc0_1, hC0_1⟩⟩⟩, ⟨_, _, rfl, rfl, ⟨_, _, rfl, ⟨_, _, rfl, rfl, rfl⟩, ⟨_, _, rfl, ⟨A0_2, c0_2, rfl, hlc0_2, hC0_2⟩, ⟨_, _, rfl, ⟨_, _, rfl, rfl, ⟨_, _, rfl, rfl, ⟨_, _, rfl, ⟨A0_3, c0_3, rfl, hlc0_3, hC0_3⟩, ⟨A0_4, c0_4, rfl, hlc0_4, hC0_4⟩⟩⟩⟩, ⟨_, _, rfl, ⟨A0_5, c0_5, rfl, hlc0_5, hC0_5⟩, ⟨_, _, rfl, rfl, ⟨_, _, rfl, rfl, rfl⟩⟩⟩⟩⟩⟩⟩⟩ := hk0
  obtain rfl : cs0 = #[.int .i64 y0.f0.f0, .int .i64 y0.f0.f1, .slice A0_1 y0.f0.f2.length c0_1, .int .i64 y0.f1, .int .i64 y0.f2.f0, .int .i64 y0.f2.f1, .slice A0_2 y0.f3.length c0_2, .int .i64 y0.f4.f0, .int .i64 y0.f4.f1, .slice A0_3 y0.f4.f2.length c0_3, .slice A0_4 y0.f4.f3.length c0_4, .slice A0_5 y0.f5.length c0_5, .int .i64 y0.f6, .int .i64 y0.f7, .int .i64 y0.f8] := by
    have h_ : cs0.toList = _ := hcs0
    exact Array.toList_inj.mp h_
  obtain ⟨k_, hf⟩ := Pure.FnExactCanReturnNow y0 hw0
  refine (laws_FnExactCanReturnNow.calls k_ y0.f0.f0 y0.f0.f1 A0_1 c0_1 y0.f0.f2 y0.f1 y0.f2.f0 y0.f2.f1 A0_2 c0_2 y0.f3 y0.f4.f0 y0.f4.f1 A0_3 c0_3 y0.f4.f2 A0_4 c0_4 y0.f4.f3 A0_5 c0_5 y0.f5 y0.f6 y0.f7 y0.f8 true rfl W hC0_1 hlc0_1 hC0_2 hlc0_2 hC0_3 hlc0_3 hC0_4 hlc0_4 hC0_5 hlc0_5 hf).mono fun e W' ⟨he, bel0⟩ => ?_
  have bel : Below W.heap.size W W' := bel0
  subst he
  exact ⟨_, rfl, _, _, _, [], _, [], hW', trodAll_mk1 (shut_bool Try.underlying4 _), (trodAll_cons_mk (Below.trod laidOut (by kernel_rfl) (of_decide_eq_true (by kernel_rfl)) h0 bel lt0) trodAll_mk0), rfl, bel.frame _, fun h => by cases h⟩
theorem closed : joinedFacts Try.prog 3 Try.f3 Rows.fnExactCanReturnNowSpec Rows.fnExactCanReturnNowRow = true := by
  unfold joinedFacts
  rw [Head.mayEnter, Head.liftsFinal, Head.make]
  kernel_rfl
theorem over : Rows.fnExactCanReturnNowRow.holds Try.pinned (OpenSpec.ofChange Rows.fnExactCanReturnNowSpec) :=
  OpenClaim.holds_of_wide 3 Try.f3 rfl rfl rfl rfl rfl rfl rfl ⟨rfl, rfl, rfl, rfl, rfl⟩ rfl rfl rfl rfl rfl (by kernel_rfl) Try.func3 closed
    (of_decide_eq_true (by kernel_rfl)) (by unfold Func.isWrapper; first | (rw [if_pos (by decide +kernel)]; kernel_rfl) | (rw [if_neg (by decide +kernel)]; exact ⟨rfl, rfl⟩))
    (fun os started H enc _ => lifted os started H enc)
theorem proved : Rows.FnExactCanReturnNowSaid := over
end Go.Proofs.Yteiepphhkikmoaa.fnExactCanReturnNow
namespace Go.Proofs.Yteiepphhkikmoaa
/-- The row, under a short name, for the claim. -/
theorem fnExactCanReturnNow_holds : Rows.FnExactCanReturnNowSaid := fnExactCanReturnNow.proved
end Go.Proofs.Yteiepphhkikmoaa
