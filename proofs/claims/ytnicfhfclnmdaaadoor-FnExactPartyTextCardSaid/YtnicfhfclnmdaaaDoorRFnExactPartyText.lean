/- The row of the statement FnExactPartyText: its arguments are opened and handed to the walk of the law's function; what is computed there is true by the plain theorem. For every input that the statement speaks of; no further condition. -/
import Derived.Test.YtnicfhfclnmdaaaDoorRows
import Derived.Test.YtnicfhfclnmdaaaDoorHead
import Derived.Test.YtnicfhfclnmdaaaDoorG4
import Derived.Test.YtnicfhfclnmdaaaDoorPureFnExactPartyText
import Derived.Test.YtnicfhfclnmdaaaDoorOpens
import Derived.Test.YtnicfhfclnmdaaaDoorCards
import Derived.Test.YtnicfhfclnmdaaaDoorTie
import Derived.LaidMore
import Derived.SevenTiedAt
import Derived.LaidHandle
import Derived.Stop.Joined
import Derived.WalkKit
import Derived.ProofKit
import Derived.OpenShut
import Derived.ShutString
import Derived.ChangeOld
import Derived.Below
import Derived.SizedLaws
namespace Go.Proofs.YtnicfhfclnmdaaaDoor.fnExactPartyText
open Go.ChangeShapes Go.WideShapes Go.ChangeAt Go.RowKit Go.Proofs.YtnicfhfclnmdaaaDoor.Q Go.Proofs.YtnicfhfclnmdaaaDoorW.PrintWords Go.Proofs.YtnicfhfclnmdaaaDoorW.Opens
set_option linter.unusedVariables false
set_option linter.unusedSimpArgs false
theorem own : ownKnob Tryd.prog.godebug = none := by kernel_rfl
theorem laidOut : laidOutB Tryd.prog = true := by kernel_rfl
theorem o24 : Opens Tryd.prog 24 k24 W24 := opens_struct (fun x : S24 => (x.f0, x.f1, x.f2)) (fun z => (⟨z.1, z.2.1, z.2.2⟩ : S24)) (fun _ => rfl) Tryd.underlying24 (by kernel_rfl) (opensF_cons rfl (by kernel_rfl) (opens_int Tryd.underlying3) (opensF_cons rfl (by kernel_rfl) (opens_int Tryd.underlying3) (opensF_one rfl (by kernel_rfl) (opens_slice Tryd.underlying22 (by kernel_rfl) (opens_int Tryd.underlying3)))))
theorem o80 : Opens Tryd.prog 80 k80 W80 := opens_struct (fun x : S80 => (x.f0, x.f1, x.f2, x.f3)) (fun z => (⟨z.1, z.2.1, z.2.2.1, z.2.2.2⟩ : S80)) (fun _ => rfl) Tryd.underlying80 (by kernel_rfl) (opensF_cons rfl (by kernel_rfl) (opens_int Tryd.underlying3) (opensF_cons rfl (by kernel_rfl) (opens_int Tryd.underlying3) (opensF_cons rfl (by kernel_rfl) (opens_int Tryd.underlying3) (opensF_one rfl (by kernel_rfl) (opens_bool Tryd.underlying4)))))
theorem o40 : Opens Tryd.prog 40 k40 W40 := opens_struct (fun x : S40 => (x.f0, x.f1, x.f2, x.f3)) (fun z => (⟨z.1, z.2.1, z.2.2.1, z.2.2.2⟩ : S40)) (fun _ => rfl) Tryd.underlying40 (by kernel_rfl) (opensF_cons rfl (by kernel_rfl) (opens_int Tryd.underlying3) (opensF_cons rfl (by kernel_rfl) (opens_int Tryd.underlying3) (opensF_cons rfl (by kernel_rfl) (opens_slice Tryd.underlying37 (by kernel_rfl) o80) (opensF_one rfl (by kernel_rfl) (opens_slice Tryd.underlying38 (by kernel_rfl) (opens_bool Tryd.underlying4))))))
/-- The heap that the door's own run leaves meets the row's condition. -/
theorem door_met (os : Os) (args : Array Value) : laidMetH Tryd.prog Rows.fnExactPartyTextRow.laid ((World.doorLaid Tryd.prog 400 os).forCall (fun _ _ => 0) ⟨#[], args, []⟩).memory :=
  laidMetH_of_parts3 (fuel := 8) (laidMet_of_run' 8 (by kernel_rfl) (by kernel_rfl)) (by kernel_rfl) (by kernel_rfl)
/-- The table of powers of ten, out of the row's condition. -/
theorem tab_of_laid {W : World} (h : laidMetH Tryd.prog Rows.fnExactPartyTextRow.laid W) : Tryd.TabW W := by
  rw [MakeChecks.laidMetH_plain _ _ _ (by kernel_rfl)] at h
  obtain ⟨ps, ⟨g0, t0, cs0, f0, p0, q0, hg0, ht0, hv0, hd0, ⟨g1, t1, cs1, f1, p1, q1, hg1, ht1, hv1, hd1, ⟨g2, t2, cs2, f2, p2, q2, hg2, ht2, hv2, hd2, _, _⟩, _⟩, _⟩, _, _⟩ := h
  obtain rfl : (1 : Nat) = g2 := Option.some.inj ((show _ = some 1 by kernel_rfl : Tryd.prog.globalNamed Tryd.tabName = some 1).symm.trans (show Tryd.prog.globalNamed Tryd.tabName = some g2 from (congrArg Tryd.prog.globalNamed (show Tryd.tabName = _ by kernel_rfl)).trans hg2))
  obtain rfl : (96 : Nat) = t2 := Option.some.inj ((show (Tryd.prog.globals[1]?).map (·.type) = some 96 by kernel_rfl).symm.trans ht2)
  have hd : cs2.toList = Go.Lib.pow10Tab.map fun z => Value.int .u64 z := Go.Lib.cells_of_tab (e := 89) (n := 20) (k := .u64) (by kernel_rfl) (by kernel_rfl) (by kernel_rfl) (by kernel_rfl) hd2
  unfold Tryd.TabW Go.Lib.TabIs
  rw [(show Tryd.tabName = _ by kernel_rfl : Tryd.tabName = _), hv2, ← hd]
set_option maxRecDepth 100000 in
theorem lifted (os : Os) (started : os.Started) (H : Type) (enc : TypeId × Value → H) :
    ReturnsInHanded {} Tryd.checked os 6 .any (fun w args => (Rows.fnExactPartyTextSpec.pre enc Tryd.prog Tryd.f6 [] false w args ∧ laidMetH Tryd.prog Rows.fnExactPartyTextRow.laid w) ∧ sizedMet enc Tryd.prog Tryd.f6 (OpenSpec.ofChange Rows.fnExactPartyTextSpec) false w args) (Rows.fnExactPartyTextSpec.post enc Tryd.prog Tryd.f6 false true false false) := by
  refine returnsInHanded_of_change_and (C := Tryd.checked) (X := fun w _ => laidMetH Tryd.prog Rows.fnExactPartyTextRow.laid w) (fun _ _ _ hh h => h.of_heap hh) own started (by kernel_rfl) Tryd.func6
    (ChangeSpec.witness_shaped (enc := enc) (C := Tryd.checked) (os := os) (X := fun w _ => laidMetH Tryd.prog Rows.fnExactPartyTextRow.laid w) false (World.doorLaid Tryd.prog 400 os) #[.agg #[.int .i64 0, .int .i64 0, .slice none 0 0], .agg #[.int .i64 0, .int .i64 0, .slice none 0 0, .slice none 0 0]] 8 rfl (World.shaped_of_RefB (by kernel_rfl) (by kernel_rfl)) (by kernel_rfl) (by kernel_rfl) (by kernel_rfl) (door_met os _)) ?_
  intro W base args ds gs before hval0 hW hcnd hsz0 hL _
  have hval : ∀ (j : Nat) t v, Tryd.f6.params[j]? = some t → args[j]? = some v → Value.okWide Tryd.prog W .any base t v := hval0
  have hW' := hW
  obtain ⟨p, q, hA0, hV, rfl, hfz, hnd⟩ := hW
  have hA : DataW.TrodAll enc Tryd.prog W 0 (fun _ => true) true Tryd.f6.params.toList args.toList ds p := hA0
  rw [Tryd.params6] at hA hval
  obtain ⟨v0, vs0, d0, ds0, p0, q0, hargs, rfl, rfl, h0, r0⟩ := trodAll_cons hA
  obtain ⟨v1, vs1, d1, ds1, p1, q1, rfl, rfl, rfl, h1, r1⟩ := trodAll_cons r0
  obtain ⟨rfl, rfl, rfl⟩ := trodAll_nil r1
  obtain rfl : args = #[v0, v1] := by cases args; simp_all
  obtain ⟨rfl, rfl⟩ := trodVars_none hV
  have lt0 : ∀ x ∈ p0, x.block < W.heap.size := by obtain ⟨m, hm⟩ := h0; exact DataW.trod_lt m _ _ _ hm
  obtain ⟨y0, hk0, hw0⟩ := opens_arg o24 h0
  obtain ⟨cs0, rfl, _⟩ := okWide_struct Tryd.underlying24 (hval 0 24 v0 rfl rfl)
  generalize hcs0 : (Value.agg cs0).cells.toList = L0 at hk0
  obtain ⟨_, _, rfl, rfl, ⟨_, _, rfl, rfl, ⟨A0_1, c0_1, rfl, hlc0_1, hC0_1⟩⟩⟩ := hk0
  obtain rfl : cs0 = #[.int .i64 y0.f0, .int .i64 y0.f1, .slice A0_1 y0.f2.length c0_1] := by
    have h_ : cs0.toList = _ := hcs0
    exact Array.toList_inj.mp h_
  have lt1 : ∀ x ∈ p1, x.block < W.heap.size := by obtain ⟨m, hm⟩ := h1; exact DataW.trod_lt m _ _ _ hm
  obtain ⟨y1, hk1, hw1⟩ := opens_arg o40 h1
  obtain ⟨cs1, rfl, _⟩ := okWide_struct Tryd.underlying40 (hval 1 40 v1 rfl rfl)
  generalize hcs1 : (Value.agg cs1).cells.toList = L1 at hk1
  obtain ⟨_, _, rfl, rfl, ⟨_, _, rfl, rfl, ⟨_, _, rfl, ⟨A1_1, c1_1, rfl, hlc1_1, hC1_1⟩, ⟨A1_2, c1_2, rfl, hlc1_2, hC1_2⟩⟩⟩⟩ := hk1
  obtain rfl : cs1 = #[.int .i64 y1.f0, .int .i64 y1.f1, .slice A1_1 y1.f2.length c1_1, .slice A1_2 y1.f3.length c1_2] := by
    have h_ : cs1.toList = _ := hcs1
    exact Array.toList_inj.mp h_
  obtain ⟨k_, hf⟩ := Pure.FnExactPartyText y0 y1 hw0 hw1
  refine (laws_FnExactPartyText.calls k_ y0.f0 y0.f1 A0_1 c0_1 y0.f2 y1.f0 y1.f1 A1_1 c1_1 y1.f2 A1_2 c1_2 y1.f3 true rfl W (tab_of_laid hL) hC0_1 hlc0_1 hC1_1 hlc1_1 hC1_2 hlc1_2 hf).mono fun e W' ⟨he, bel0⟩ => ?_
  have bel : Below W.heap.size W W' := bel0
  subst he
  exact ⟨_, rfl, _, _, _, [], _, [], hW', trodAll_mk1 (shut_bool Tryd.underlying4 _), (trodAll_cons_mk (Below.trod laidOut (by kernel_rfl) (of_decide_eq_true (by kernel_rfl)) h0 bel lt0) (trodAll_cons_mk (Below.trod laidOut (by kernel_rfl) (of_decide_eq_true (by kernel_rfl)) h1 bel lt1) trodAll_mk0)), rfl, bel.frame _, fun h => by cases h⟩
theorem closed : joinedFacts Tryd.prog 6 Tryd.f6 Rows.fnExactPartyTextSpec Rows.fnExactPartyTextRow = true := by
  unfold joinedFacts
  rw [Head.mayEnter, Head.liftsFinal, Head.make]
  kernel_rfl
theorem over : Rows.fnExactPartyTextRow.holds Tryd.pinned (OpenSpec.ofChange Rows.fnExactPartyTextSpec) :=
  OpenClaim.holds_of_wide 6 Tryd.f6 rfl rfl rfl rfl rfl rfl rfl ⟨rfl, rfl, rfl, rfl, rfl⟩ rfl rfl rfl rfl rfl (by kernel_rfl) Tryd.func6 closed
    (of_decide_eq_true (by kernel_rfl)) (by unfold Func.isWrapper; first | (rw [if_pos (by decide +kernel)]; kernel_rfl) | (rw [if_neg (by decide +kernel)]; exact ⟨rfl, rfl⟩))
    (fun os started H enc _ => lifted os started H enc)
theorem proved : Rows.FnExactPartyTextSaid := over
end Go.Proofs.YtnicfhfclnmdaaaDoor.fnExactPartyText
namespace Go.Proofs.YtnicfhfclnmdaaaDoor
/-- The tied card, for the claim. -/
theorem fnExactPartyText_holds : Rows.FnExactPartyTextCardSaid :=
  Claim7.holds_tied_plain_at .later [] [.data, .data, .data] true (true, "0fd10de54675920186baac394307244da925ddc85f6854d8a0a537163887c21e") false
    fnExactPartyText.proved (fun _ h => by cases h) (by kernel_rfl) (fun _ h => by cases h) fnExactPartyText_row_tie rfl ⟨rfl, rfl⟩ (by kernel_rfl) rfl
    (fun f fn hf hfn => by
      obtain rfl : f = 6 := Option.some.inj ((show Tryd.prog.funcNamed Rows.fnExactPartyTextRow.func = some 6 by kernel_rfl).symm.trans hf) |>.symm
      obtain rfl : fn = Tryd.f6 := (Option.some.inj (Tryd.func6.symm.trans hfn)).symm
      exact ⟨by kernel_rfl, fun j t ht => by
        rw [Tryd.params6] at ht
        have hm : t ∈ [24, 40] := by simpa using Array.mem_of_getElem? ht
        have hall : ([24, 40].all fun u => !Tryd.prog.wantsStandIn u) = true := by kernel_rfl
        exact (show Tryd.prog.wantsStandIn t = false by simpa using List.all_eq_true.1 hall t hm)⟩)
    (by kernel_rfl)
end Go.Proofs.YtnicfhfclnmdaaaDoor
