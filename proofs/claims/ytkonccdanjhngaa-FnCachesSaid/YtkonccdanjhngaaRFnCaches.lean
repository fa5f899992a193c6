/- The row of the statement FnCaches: its arguments are opened and handed to the walk of the law's function; what is computed there is true by the plain theorem. For every input that the statement speaks of; no further condition. -/
import Derived.Test.YtkonccdanjhngaaRows
import Derived.Test.YtkonccdanjhngaaHead
import Derived.Test.YtkonccdanjhngaaG11
import Derived.Test.YtkonccdanjhngaaPureFnCaches
import Derived.Test.YtkonccdanjhngaaOpens
import Derived.WalkKit
import Derived.ProofKit
import Derived.OpenShut
import Derived.ShutString
import Derived.ChangeOld
import Derived.Below
import Derived.SizedLaws
namespace Go.Proofs.Ytkonccdanjhngaa.fnCaches
open Go.ChangeShapes Go.WideShapes Go.ChangeAt Go.RowKit Go.Proofs.Ytkonccdanjhngaa.Q Go.Proofs.YtkonccdanjhngaaW.PrintWords Go.Proofs.YtkonccdanjhngaaW.y0o
set_option linter.unusedVariables false
set_option linter.unusedSimpArgs false
theorem own:ownKnob Try.prog.godebug=none:=by kernel_rfl
theorem laidOut:laidOutB Try.prog=true:=by kernel_rfl
set_option maxRecDepth 100000 in
theorem lifted (os:Os) (started:os.Started) (H:Type) (enc:TypeId × Value→H) :
    ReturnsInHanded {} Try.checked os 3 .any (Rows.fnCachesSpec.pre6 enc Try.prog Try.f3 Rows.fnCachesRow.domain false) (Rows.fnCachesSpec.post enc Try.prog Try.f3 false true false false):=by
  refine returnsInHanded_of_change_sized (C:=Try.checked) own started (by kernel_rfl) Try.func3
    (ChangeSpec.witness6 (enc:=enc) (C:=Try.checked) false ⟨#[],#[.slice none 0 0],[]⟩ 8 (by kernel_rfl) (by kernel_rfl) (by kernel_rfl) (by kernel_rfl)) ?_
  intro W base args ds gs before hval0 hW hcnd hsz0 _
  have hval:∀ (j:Nat) t v,Try.f3.params[j]?=some t→args[j]?=some v→Value.okWide Try.prog W .any base t v:=hval0
  have hW':=hW
  obtain⟨p,q,hA0,hV,rfl,hfz,hnd⟩:=hW
  have hA:DataW.TrodAll enc Try.prog W 0 (fun _=>true) true Try.f3.params.toList args.toList ds p:=hA0
  rw[Try.params3] at hA hval
  obtain⟨v0,vs0,d0,ds0,p0,q0,hargs,rfl,rfl,h0,r0⟩:=trodAll_cons hA
  obtain⟨rfl,rfl,rfl⟩:=trodAll_nil r0
  obtain rfl:args=#[v0]:=by cases args;simp_all
  obtain⟨rfl,rfl⟩:=trodVars_none hV
  have lt0:∀ x∈p0,x.block<W.heap.size:=by obtain⟨m,hm⟩:=h0;exact DataW.trod_lt m _ _ _ hm
  obtain⟨y0,hk0,hw0⟩:=opens_arg (opens_slice Try.underlying22 (by kernel_rfl) (opens_int Try.underlying5)) h0
  obtain⟨a0,len0,cap0,rfl⟩:=okWide_slice Try.underlying22 (hval 0 22 v0 rfl rfl)
  obtain⟨A0,c0,hc0,hlc0,hC0⟩:=hk0
  obtain⟨rfl,rfl,rfl⟩:a0=A0∧len0=y0.length∧cap0=c0:=by simpa [Value.cells] using hc0
  obtain⟨k_,hf⟩:=Pure.FnCaches y0 hw0
  refine(q0h.calls k_ a0 cap0 y0 true rfl W hC0 hlc0 hf).mono fun e W' ⟨he,bel0⟩=>?_
  have bel:Below W.heap.size W W':=bel0
  subst he
  exact⟨_,rfl,_,_,_,[],_,[],hW',trodAll_mk1 (shut_bool Try.underlying4 _),(trodAll_cons_mk (Below.trod laidOut (by kernel_rfl) (of_decide_eq_true (by kernel_rfl)) h0 bel lt0) trodAll_mk0),rfl,bel.frame _,fun h=>by cases h⟩
theorem closed:joinedFacts Try.prog 3 Try.f3 Rows.fnCachesSpec Rows.fnCachesRow=true:=by
  unfold joinedFacts
  rw[Head.mayEnter,Head.liftsFinal,Head.make]
  kernel_rfl
theorem over:Rows.fnCachesRow.holds Try.pinned (OpenSpec.ofChange Rows.fnCachesSpec) :=
  OpenClaim.holds_of_wide 3 Try.f3 rfl rfl rfl rfl rfl rfl rfl ⟨rfl,rfl,rfl,rfl,rfl⟩ rfl rfl rfl rfl rfl (by kernel_rfl) Try.func3 closed
    (of_decide_eq_true (by kernel_rfl)) (by unfold Func.isWrapper;first|(rw[if_pos (by decide +kernel)];kernel_rfl)|(rw[if_neg (by decide +kernel)];exact⟨rfl,rfl⟩))
    (fun os started H enc _=>lifted os started H enc)
theorem proved:Rows.FnCachesSaid:=over
end Go.Proofs.Ytkonccdanjhngaa.fnCaches
namespace Go.Proofs.Ytkonccdanjhngaa
/-- The row, under a short name, for the claim. -/
theorem fnCaches_holds:Rows.FnCachesSaid:=fnCaches.proved
end Go.Proofs.Ytkonccdanjhngaa
