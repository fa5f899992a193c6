/-
  No cell of these rows narrows 'for every input' (looked for: loops, veiled, ifaces, maps, wideKeys, modest, calm, conditions, laid).
  DERIVED. THE GIVEN ROWS OF THIS SEAT. 10 by the template 'for every input the law returns true; each argument reads behind the call as it read before'; 0 by the template 'total and deterministic' (their statements: YteiepphhkikmoaaTotals.lean).
  GIVEN WITH THE SEED: the statements are not yours to turn. If you find one false, say at which input.
  Laid BY PROGRAM, IN A SANDBOX (cutbox-rows.mjs): the forced cells as the released guide's own fill.sh prints them over the translation fcb3f4d478f226fa… (all of the seat's roots in one cut). By AI agents, Wed Nov 11 2026. No macro, syntax, notation, axiom, sorry.
-/
import Derived.Test.YteiepphhkikmoaaChecked
import GoSem.Claim
import GoSem.ClaimJoined
import GoSem.ClaimMapViews
import Derived.JoinedTies
import Derived.KernelRfl
namespace Go.Proofs.Yteiepphhkikmoaa
/- THE CELL 'sum', in the pinned program and in every row, IS THE sha256 OF THE DUMP (.gsa) THAT YteiepphhkikmoaaProg.lean LOADS. Nothing in Lean hashes anything: it is a label: what it is worth is what the hold of that sum in a sandbox is worth. -/
noncomputable def Try.pinned : Pinned := { name := "yteiepphhkikmoaa", sum := "fcb3f4d478f226fa1e043f7aee8d493071cfd20af46be934e34f9d47268f861a", checked := Try.checked }
namespace Rows
def none {H : Type} : Left H := { results := [], args := [] }

/-- 'laws.FnExactCanReturnNow': WHATEVER THE INPUT: true; the input reads as it did. -/
def fnExactCanReturnNowSpec : ChangeSpec := { name := "fnExactCanReturnNow", fn := fun _ => fun
  | [d] => { results := [.lit (.bool true)], args := [d] }
  | _ => none }
def fnExactCanReturnNowRow : OpenClaim := { program := "yteiepphhkikmoaa", sum := "fcb3f4d478f226fa1e043f7aee8d493071cfd20af46be934e34f9d47268f861a", func := "loop.example/g03008/laws.FnExactCanReturnNow", spec := "fnExactCanReturnNow", apart := false }
def FnExactCanReturnNowSaid : Prop := fnExactCanReturnNowRow.holds Try.pinned (OpenSpec.ofChange fnExactCanReturnNowSpec)

/-- ITS FALSE NEIGHBOUR: 'it returns false'. Refute it at one input. -/
def fnExactCanReturnNowWrong : ChangeSpec := { name := "fnExactCanReturnNow", fn := fun _ => fun
  | [d] => { results := [.lit (.bool false)], args := [d] }
  | _ => none }
def FnExactCanReturnNowWrongFalsely : Prop := fnExactCanReturnNowRow.holds Try.pinned (OpenSpec.ofChange fnExactCanReturnNowWrong)

/-- 'laws.FnExactChoicesOf': WHATEVER THE INPUT: true; the input reads as it did. -/
def fnExactChoicesOfSpec : ChangeSpec := { name := "fnExactChoicesOf", fn := fun _ => fun
  | [d1, d2, d3, d4, d5] => { results := [.lit (.bool true)], args := [d1, d2, d3, d4, d5] }
  | _ => none }
def fnExactChoicesOfRow : OpenClaim := { program := "yteiepphhkikmoaa", sum := "fcb3f4d478f226fa1e043f7aee8d493071cfd20af46be934e34f9d47268f861a", func := "loop.example/g03008/laws.FnExactChoicesOf", spec := "fnExactChoicesOf", apart := false }
def FnExactChoicesOfSaid : Prop := fnExactChoicesOfRow.holds Try.pinned (OpenSpec.ofChange fnExactChoicesOfSpec)

/-- ITS FALSE NEIGHBOUR: 'it returns false'. Refute it at one input. -/
def fnExactChoicesOfWrong : ChangeSpec := { name := "fnExactChoicesOf", fn := fun _ => fun
  | [d1, d2, d3, d4, d5] => { results := [.lit (.bool false)], args := [d1, d2, d3, d4, d5] }
  | _ => none }
def FnExactChoicesOfWrongFalsely : Prop := fnExactChoicesOfRow.holds Try.pinned (OpenSpec.ofChange fnExactChoicesOfWrong)

/-- 'laws.FnExactWaitStep': WHATEVER THE INPUT: true; the input reads as it did. -/
def fnExactWaitStepSpec : ChangeSpec := { name := "fnExactWaitStep", fn := fun _ => fun
  | [d1, d2, d3, d4, d5, d6] => { results := [.lit (.bool true)], args := [d1, d2, d3, d4, d5, d6] }
  | _ => none }
def fnExactWaitStepRow : OpenClaim := { program := "yteiepphhkikmoaa", sum := "fcb3f4d478f226fa1e043f7aee8d493071cfd20af46be934e34f9d47268f861a", func := "loop.example/g03008/laws.FnExactWaitStep", spec := "fnExactWaitStep", apart := false }
def FnExactWaitStepSaid : Prop := fnExactWaitStepRow.holds Try.pinned (OpenSpec.ofChange fnExactWaitStepSpec)

/-- ITS FALSE NEIGHBOUR: 'it returns false'. Refute it at one input. -/
def fnExactWaitStepWrong : ChangeSpec := { name := "fnExactWaitStep", fn := fun _ => fun
  | [d1, d2, d3, d4, d5, d6] => { results := [.lit (.bool false)], args := [d1, d2, d3, d4, d5, d6] }
  | _ => none }
def FnExactWaitStepWrongFalsely : Prop := fnExactWaitStepRow.holds Try.pinned (OpenSpec.ofChange fnExactWaitStepWrong)

/-- 'laws.FnExactStepsOn': WHATEVER THE INPUT: true; the input reads as it did. -/
def fnExactStepsOnSpec : ChangeSpec := { name := "fnExactStepsOn", fn := fun _ => fun
  | [d1, d2, d3, d4, d5, d6] => { results := [.lit (.bool true)], args := [d1, d2, d3, d4, d5, d6] }
  | _ => none }
def fnExactStepsOnRow : OpenClaim := { program := "yteiepphhkikmoaa", sum := "fcb3f4d478f226fa1e043f7aee8d493071cfd20af46be934e34f9d47268f861a", func := "loop.example/g03008/laws.FnExactStepsOn", spec := "fnExactStepsOn", apart := false }
def FnExactStepsOnSaid : Prop := fnExactStepsOnRow.holds Try.pinned (OpenSpec.ofChange fnExactStepsOnSpec)

/-- ITS FALSE NEIGHBOUR: 'it returns false'. Refute it at one input. -/
def fnExactStepsOnWrong : ChangeSpec := { name := "fnExactStepsOn", fn := fun _ => fun
  | [d1, d2, d3, d4, d5, d6] => { results := [.lit (.bool false)], args := [d1, d2, d3, d4, d5, d6] }
  | _ => none }
def FnExactStepsOnWrongFalsely : Prop := fnExactStepsOnRow.holds Try.pinned (OpenSpec.ofChange fnExactStepsOnWrong)

/-- 'laws.FnExactLatestCalm': WHATEVER THE INPUT: true; the input reads as it did. -/
def fnExactLatestCalmSpec : ChangeSpec := { name := "fnExactLatestCalm", fn := fun _ => fun
  | [d1, d2, d3, d4, d5] => { results := [.lit (.bool true)], args := [d1, d2, d3, d4, d5] }
  | _ => none }
def fnExactLatestCalmRow : OpenClaim := { program := "yteiepphhkikmoaa", sum := "fcb3f4d478f226fa1e043f7aee8d493071cfd20af46be934e34f9d47268f861a", func := "loop.example/g03008/laws.FnExactLatestCalm", spec := "fnExactLatestCalm", apart := false }
def FnExactLatestCalmSaid : Prop := fnExactLatestCalmRow.holds Try.pinned (OpenSpec.ofChange fnExactLatestCalmSpec)

/-- ITS FALSE NEIGHBOUR: 'it returns false'. Refute it at one input. -/
def fnExactLatestCalmWrong : ChangeSpec := { name := "fnExactLatestCalm", fn := fun _ => fun
  | [d1, d2, d3, d4, d5] => { results := [.lit (.bool false)], args := [d1, d2, d3, d4, d5] }
  | _ => none }
def FnExactLatestCalmWrongFalsely : Prop := fnExactLatestCalmRow.holds Try.pinned (OpenSpec.ofChange fnExactLatestCalmWrong)

/-- 'laws.FnExactLatestTurn': WHATEVER THE INPUT: true; the input reads as it did. -/
def fnExactLatestTurnSpec : ChangeSpec := { name := "fnExactLatestTurn", fn := fun _ => fun
  | [d1, d2, d3, d4, d5] => { results := [.lit (.bool true)], args := [d1, d2, d3, d4, d5] }
  | _ => none }
def fnExactLatestTurnRow : OpenClaim := { program := "yteiepphhkikmoaa", sum := "fcb3f4d478f226fa1e043f7aee8d493071cfd20af46be934e34f9d47268f861a", func := "loop.example/g03008/laws.FnExactLatestTurn", spec := "fnExactLatestTurn", apart := false }
def FnExactLatestTurnSaid : Prop := fnExactLatestTurnRow.holds Try.pinned (OpenSpec.ofChange fnExactLatestTurnSpec)

/-- ITS FALSE NEIGHBOUR: 'it returns false'. Refute it at one input. -/
def fnExactLatestTurnWrong : ChangeSpec := { name := "fnExactLatestTurn", fn := fun _ => fun
  | [d1, d2, d3, d4, d5] => { results := [.lit (.bool false)], args := [d1, d2, d3, d4, d5] }
  | _ => none }
def FnExactLatestTurnWrongFalsely : Prop := fnExactLatestTurnRow.holds Try.pinned (OpenSpec.ofChange fnExactLatestTurnWrong)

/-- 'laws.FnExactIsSafeWay': WHATEVER THE INPUT: true; the input reads as it did. -/
def fnExactIsSafeWaySpec : ChangeSpec := { name := "fnExactIsSafeWay", fn := fun _ => fun
  | [d1, d2, d3, d4, d5, d6] => { results := [.lit (.bool true)], args := [d1, d2, d3, d4, d5, d6] }
  | _ => none }
def fnExactIsSafeWayRow : OpenClaim := { program := "yteiepphhkikmoaa", sum := "fcb3f4d478f226fa1e043f7aee8d493071cfd20af46be934e34f9d47268f861a", func := "loop.example/g03008/laws.FnExactIsSafeWay", spec := "fnExactIsSafeWay", apart := false }
def FnExactIsSafeWaySaid : Prop := fnExactIsSafeWayRow.holds Try.pinned (OpenSpec.ofChange fnExactIsSafeWaySpec)

/-- ITS FALSE NEIGHBOUR: 'it returns false'. Refute it at one input. -/
def fnExactIsSafeWayWrong : ChangeSpec := { name := "fnExactIsSafeWay", fn := fun _ => fun
  | [d1, d2, d3, d4, d5, d6] => { results := [.lit (.bool false)], args := [d1, d2, d3, d4, d5, d6] }
  | _ => none }
def FnExactIsSafeWayWrongFalsely : Prop := fnExactIsSafeWayRow.holds Try.pinned (OpenSpec.ofChange fnExactIsSafeWayWrong)

/-- 'laws.FnExactMustTurn': WHATEVER THE INPUT: true; the input reads as it did. -/
def fnExactMustTurnSpec : ChangeSpec := { name := "fnExactMustTurn", fn := fun _ => fun
  | [d1, d2, d3, d4, d5] => { results := [.lit (.bool true)], args := [d1, d2, d3, d4, d5] }
  | _ => none }
def fnExactMustTurnRow : OpenClaim := { program := "yteiepphhkikmoaa", sum := "fcb3f4d478f226fa1e043f7aee8d493071cfd20af46be934e34f9d47268f861a", func := "loop.example/g03008/laws.FnExactMustTurn", spec := "fnExactMustTurn", apart := false }
def FnExactMustTurnSaid : Prop := fnExactMustTurnRow.holds Try.pinned (OpenSpec.ofChange fnExactMustTurnSpec)

/-- ITS FALSE NEIGHBOUR: 'it returns false'. Refute it at one input. -/
def fnExactMustTurnWrong : ChangeSpec := { name := "fnExactMustTurn", fn := fun _ => fun
  | [d1, d2, d3, d4, d5] => { results := [.lit (.bool false)], args := [d1, d2, d3, d4, d5] }
  | _ => none }
def FnExactMustTurnWrongFalsely : Prop := fnExactMustTurnRow.holds Try.pinned (OpenSpec.ofChange fnExactMustTurnWrong)

/-- 'laws.FnExactMayLay': WHATEVER THE INPUT: true; the input reads as it did. -/
def fnExactMayLaySpec : ChangeSpec := { name := "fnExactMayLay", fn := fun _ => fun
  | [d1, d2, d3, d4, d5, d6] => { results := [.lit (.bool true)], args := [d1, d2, d3, d4, d5, d6] }
  | _ => none }
def fnExactMayLayRow : OpenClaim := { program := "yteiepphhkikmoaa", sum := "fcb3f4d478f226fa1e043f7aee8d493071cfd20af46be934e34f9d47268f861a", func := "loop.example/g03008/laws.FnExactMayLay", spec := "fnExactMayLay", apart := false }
def FnExactMayLaySaid : Prop := fnExactMayLayRow.holds Try.pinned (OpenSpec.ofChange fnExactMayLaySpec)

/-- ITS FALSE NEIGHBOUR: 'it returns false'. Refute it at one input. -/
def fnExactMayLayWrong : ChangeSpec := { name := "fnExactMayLay", fn := fun _ => fun
  | [d1, d2, d3, d4, d5, d6] => { results := [.lit (.bool false)], args := [d1, d2, d3, d4, d5, d6] }
  | _ => none }
def FnExactMayLayWrongFalsely : Prop := fnExactMayLayRow.holds Try.pinned (OpenSpec.ofChange fnExactMayLayWrong)

/-- 'laws.FnExactMostToLay': WHATEVER THE INPUT: true; the input reads as it did. -/
def fnExactMostToLaySpec : ChangeSpec := { name := "fnExactMostToLay", fn := fun _ => fun
  | [d1, d2, d3, d4, d5] => { results := [.lit (.bool true)], args := [d1, d2, d3, d4, d5] }
  | _ => none }
def fnExactMostToLayRow : OpenClaim := { program := "yteiepphhkikmoaa", sum := "fcb3f4d478f226fa1e043f7aee8d493071cfd20af46be934e34f9d47268f861a", func := "loop.example/g03008/laws.FnExactMostToLay", spec := "fnExactMostToLay", apart := false }
def FnExactMostToLaySaid : Prop := fnExactMostToLayRow.holds Try.pinned (OpenSpec.ofChange fnExactMostToLaySpec)

/-- ITS FALSE NEIGHBOUR: 'it returns false'. Refute it at one input. -/
def fnExactMostToLayWrong : ChangeSpec := { name := "fnExactMostToLay", fn := fun _ => fun
  | [d1, d2, d3, d4, d5] => { results := [.lit (.bool false)], args := [d1, d2, d3, d4, d5] }
  | _ => none }
def FnExactMostToLayWrongFalsely : Prop := fnExactMostToLayRow.holds Try.pinned (OpenSpec.ofChange fnExactMostToLayWrong)

/- THE SECOND FORM. 'bulk': how many values and letters a reading holds, each counted each time it is reached (what is shared counts as often as it is met; a slice's spare places count too). A statement '..UptoSaid' is the law's where the arguments, and the package variables that the reading takes, are together of bulk at most 1048576: NARROWER than '..Said'. Prove '..Said' where nothing that the law and all that it calls make is longer than what came in: it says more and counts as full. Else prove '..UptoSaid'. A law counts once. -/
mutual
def uptoBulk {H : Type} : DataW H → Nat
  | .lit (.string bytes) => bytes.length + 1
  | .lit _ => 1
  | .nil => 1
  | .ptr d => uptoBulk d + 1
  | .slice elems spare => uptoBulkAll elems + uptoBulkAll spare + 1
  | .agg parts => uptoBulkAll parts + 1
  | .iface _ d => uptoBulk d + 1
  | .map entries => uptoBulkEntries entries + 1
  | .held _ => 1
def uptoBulkAll {H : Type} : List (DataW H) → Nat
  | [] => 0
  | d :: r => uptoBulk d + uptoBulkAll r
def uptoBulkEntries {H : Type} : List (Lit × DataW H) → Nat
  | [] => 0
  | x :: r => uptoBulkEntry x + uptoBulkEntries r
def uptoBulkEntry {H : Type} : Lit × DataW H → Nat
  | (.string bytes, d) => bytes.length + uptoBulk d + 1
  | (_, d) => uptoBulk d + 1
 end
def uptoSmall : (H : Type) → List (DataW H) → Bool := fun _ ds => decide (uptoBulkAll ds ≤ 1048576)
def OpenSpec.upto (s : _root_.Go.ChangeSpec) : _root_.Go.OpenSpec := { _root_.Go.OpenSpec.ofChange s with cond := some uptoSmall }

/-- 'laws.FnExactCanReturnNow', WHERE WHAT IT READS IS OF BULK AT MOST 1048576: true; the input reads as it did. -/
def fnExactCanReturnNowUptoRow : OpenClaim := { program := "yteiepphhkikmoaa", sum := "fcb3f4d478f226fa1e043f7aee8d493071cfd20af46be934e34f9d47268f861a", func := "loop.example/g03008/laws.FnExactCanReturnNow", spec := "fnExactCanReturnNow", apart := false, narrowed := true }
def FnExactCanReturnNowUptoSaid : Prop := fnExactCanReturnNowUptoRow.holds Try.pinned (OpenSpec.upto fnExactCanReturnNowSpec)

/-- 'laws.FnExactChoicesOf', WHERE WHAT IT READS IS OF BULK AT MOST 1048576: true; the input reads as it did. -/
def fnExactChoicesOfUptoRow : OpenClaim := { program := "yteiepphhkikmoaa", sum := "fcb3f4d478f226fa1e043f7aee8d493071cfd20af46be934e34f9d47268f861a", func := "loop.example/g03008/laws.FnExactChoicesOf", spec := "fnExactChoicesOf", apart := false, narrowed := true }
def FnExactChoicesOfUptoSaid : Prop := fnExactChoicesOfUptoRow.holds Try.pinned (OpenSpec.upto fnExactChoicesOfSpec)

/-- 'laws.FnExactWaitStep', WHERE WHAT IT READS IS OF BULK AT MOST 1048576: true; the input reads as it did. -/
def fnExactWaitStepUptoRow : OpenClaim := { program := "yteiepphhkikmoaa", sum := "fcb3f4d478f226fa1e043f7aee8d493071cfd20af46be934e34f9d47268f861a", func := "loop.example/g03008/laws.FnExactWaitStep", spec := "fnExactWaitStep", apart := false, narrowed := true }
def FnExactWaitStepUptoSaid : Prop := fnExactWaitStepUptoRow.holds Try.pinned (OpenSpec.upto fnExactWaitStepSpec)

/-- 'laws.FnExactStepsOn', WHERE WHAT IT READS IS OF BULK AT MOST 1048576: true; the input reads as it did. -/
def fnExactStepsOnUptoRow : OpenClaim := { program := "yteiepphhkikmoaa", sum := "fcb3f4d478f226fa1e043f7aee8d493071cfd20af46be934e34f9d47268f861a", func := "loop.example/g03008/laws.FnExactStepsOn", spec := "fnExactStepsOn", apart := false, narrowed := true }
def FnExactStepsOnUptoSaid : Prop := fnExactStepsOnUptoRow.holds Try.pinned (OpenSpec.upto fnExactStepsOnSpec)

/-- 'laws.FnExactLatestCalm', WHERE WHAT IT READS IS OF BULK AT MOST 1048576: true; the input reads as it did. -/
def fnExactLatestCalmUptoRow : OpenClaim := { program := "yteiepphhkikmoaa", sum := "fcb3f4d478f226fa1e043f7aee8d493071cfd20af46be934e34f9d47268f861a", func := "loop.example/g03008/laws.FnExactLatestCalm", spec := "fnExactLatestCalm", apart := false, narrowed := true }
def FnExactLatestCalmUptoSaid : Prop := fnExactLatestCalmUptoRow.holds Try.pinned (OpenSpec.upto fnExactLatestCalmSpec)

/-- 'laws.FnExactLatestTurn', WHERE WHAT IT READS IS OF BULK AT MOST 1048576: true; the input reads as it did. -/
def fnExactLatestTurnUptoRow : OpenClaim := { program := "yteiepphhkikmoaa", sum := "fcb3f4d478f226fa1e043f7aee8d493071cfd20af46be934e34f9d47268f861a", func := "loop.example/g03008/laws.FnExactLatestTurn", spec := "fnExactLatestTurn", apart := false, narrowed := true }
def FnExactLatestTurnUptoSaid : Prop := fnExactLatestTurnUptoRow.holds Try.pinned (OpenSpec.upto fnExactLatestTurnSpec)

/-- 'laws.FnExactIsSafeWay', WHERE WHAT IT READS IS OF BULK AT MOST 1048576: true; the input reads as it did. -/
def fnExactIsSafeWayUptoRow : OpenClaim := { program := "yteiepphhkikmoaa", sum := "fcb3f4d478f226fa1e043f7aee8d493071cfd20af46be934e34f9d47268f861a", func := "loop.example/g03008/laws.FnExactIsSafeWay", spec := "fnExactIsSafeWay", apart := false, narrowed := true }
def FnExactIsSafeWayUptoSaid : Prop := fnExactIsSafeWayUptoRow.holds Try.pinned (OpenSpec.upto fnExactIsSafeWaySpec)

/-- 'laws.FnExactMustTurn', WHERE WHAT IT READS IS OF BULK AT MOST 1048576: true; the input reads as it did. -/
def fnExactMustTurnUptoRow : OpenClaim := { program := "yteiepphhkikmoaa", sum := "fcb3f4d478f226fa1e043f7aee8d493071cfd20af46be934e34f9d47268f861a", func := "loop.example/g03008/laws.FnExactMustTurn", spec := "fnExactMustTurn", apart := false, narrowed := true }
def FnExactMustTurnUptoSaid : Prop := fnExactMustTurnUptoRow.holds Try.pinned (OpenSpec.upto fnExactMustTurnSpec)

/-- 'laws.FnExactMayLay', WHERE WHAT IT READS IS OF BULK AT MOST 1048576: true; the input reads as it did. -/
def fnExactMayLayUptoRow : OpenClaim := { program := "yteiepphhkikmoaa", sum := "fcb3f4d478f226fa1e043f7aee8d493071cfd20af46be934e34f9d47268f861a", func := "loop.example/g03008/laws.FnExactMayLay", spec := "fnExactMayLay", apart := false, narrowed := true }
def FnExactMayLayUptoSaid : Prop := fnExactMayLayUptoRow.holds Try.pinned (OpenSpec.upto fnExactMayLaySpec)

/-- 'laws.FnExactMostToLay', WHERE WHAT IT READS IS OF BULK AT MOST 1048576: true; the input reads as it did. -/
def fnExactMostToLayUptoRow : OpenClaim := { program := "yteiepphhkikmoaa", sum := "fcb3f4d478f226fa1e043f7aee8d493071cfd20af46be934e34f9d47268f861a", func := "loop.example/g03008/laws.FnExactMostToLay", spec := "fnExactMostToLay", apart := false, narrowed := true }
def FnExactMostToLayUptoSaid : Prop := fnExactMostToLayUptoRow.holds Try.pinned (OpenSpec.upto fnExactMostToLaySpec)

end Rows
end Go.Proofs.Yteiepphhkikmoaa
