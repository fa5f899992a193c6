/-
  No cell of these rows narrows 'for every input' (looked for: loops, veiled, ifaces, maps, wideKeys, modest, calm, conditions, laid).
  DERIVED. THE GIVEN ROWS OF THIS SEAT. 4 by the template 'for every input the law returns true; each argument reads behind the call as it read before'; 0 by the template 'total and deterministic' (their statements: YtoppjiahnchjiaaTotals.lean).
  GIVEN WITH THE SEED: the statements are not yours to turn. If you find one false, say at which input.
  Laid BY PROGRAM, IN A SANDBOX (cutbox-rows.mjs): the forced cells as the released guide's own fill.sh prints them over the translation 315e406a42246fa7… (all of the seat's roots in one cut). By AI agents, Wed Nov 11 2026. No macro, syntax, notation, axiom, sorry.
-/
import Derived.Test.YtoppjiahnchjiaaChecked
import GoSem.Claim
import GoSem.ClaimJoined
import GoSem.ClaimMapViews
import Derived.JoinedTies
import Derived.KernelRfl
namespace Go.Proofs.Ytoppjiahnchjiaa
/- THE CELL 'sum', in the pinned program and in every row, IS THE sha256 OF THE DUMP (.gsa) THAT YtoppjiahnchjiaaProg.lean LOADS. Nothing in Lean hashes anything: it is a label: what it is worth is what the hold of that sum in a sandbox is worth. -/
noncomputable def Try.pinned : Pinned := { name := "ytoppjiahnchjiaa", sum := "315e406a42246fa72fd947f4f7b26102ea671ab3acd9a05b2e1d7fb03aebfd39", checked := Try.checked }
namespace Rows
def none {H : Type} : Left H := { results := [], args := [] }

/-- 'laws.FnExactLeftAtHome': WHATEVER THE INPUT: true; the input reads as it did. -/
def fnExactLeftAtHomeSpec : ChangeSpec := { name := "fnExactLeftAtHome", fn := fun _ => fun
  | [d1, d2, d3, d4, d5] => { results := [.lit (.bool true)], args := [d1, d2, d3, d4, d5] }
  | _ => none }
def fnExactLeftAtHomeRow : OpenClaim := { program := "ytoppjiahnchjiaa", sum := "315e406a42246fa72fd947f4f7b26102ea671ab3acd9a05b2e1d7fb03aebfd39", func := "loop.example/g03008/laws.FnExactLeftAtHome", spec := "fnExactLeftAtHome", apart := false }
def FnExactLeftAtHomeSaid : Prop := fnExactLeftAtHomeRow.holds Try.pinned (OpenSpec.ofChange fnExactLeftAtHomeSpec)

/-- ITS FALSE NEIGHBOUR: 'it returns false'. Refute it at one input. -/
def fnExactLeftAtHomeWrong : ChangeSpec := { name := "fnExactLeftAtHome", fn := fun _ => fun
  | [d1, d2, d3, d4, d5] => { results := [.lit (.bool false)], args := [d1, d2, d3, d4, d5] }
  | _ => none }
def FnExactLeftAtHomeWrongFalsely : Prop := fnExactLeftAtHomeRow.holds Try.pinned (OpenSpec.ofChange fnExactLeftAtHomeWrong)

/-- 'laws.FnExactCanReturn': WHATEVER THE INPUT: true; the input reads as it did. -/
def fnExactCanReturnSpec : ChangeSpec := { name := "fnExactCanReturn", fn := fun _ => fun
  | [d1, d2, d3, d4, d5] => { results := [.lit (.bool true)], args := [d1, d2, d3, d4, d5] }
  | _ => none }
def fnExactCanReturnRow : OpenClaim := { program := "ytoppjiahnchjiaa", sum := "315e406a42246fa72fd947f4f7b26102ea671ab3acd9a05b2e1d7fb03aebfd39", func := "loop.example/g03008/laws.FnExactCanReturn", spec := "fnExactCanReturn", apart := false }
def FnExactCanReturnSaid : Prop := fnExactCanReturnRow.holds Try.pinned (OpenSpec.ofChange fnExactCanReturnSpec)

/-- ITS FALSE NEIGHBOUR: 'it returns false'. Refute it at one input. -/
def fnExactCanReturnWrong : ChangeSpec := { name := "fnExactCanReturn", fn := fun _ => fun
  | [d1, d2, d3, d4, d5] => { results := [.lit (.bool false)], args := [d1, d2, d3, d4, d5] }
  | _ => none }
def FnExactCanReturnWrongFalsely : Prop := fnExactCanReturnRow.holds Try.pinned (OpenSpec.ofChange fnExactCanReturnWrong)

/-- 'laws.FnExactMayWait': WHATEVER THE INPUT: true; the input reads as it did. -/
def fnExactMayWaitSpec : ChangeSpec := { name := "fnExactMayWait", fn := fun _ => fun
  | [d1, d2, d3, d4, d5] => { results := [.lit (.bool true)], args := [d1, d2, d3, d4, d5] }
  | _ => none }
def fnExactMayWaitRow : OpenClaim := { program := "ytoppjiahnchjiaa", sum := "315e406a42246fa72fd947f4f7b26102ea671ab3acd9a05b2e1d7fb03aebfd39", func := "loop.example/g03008/laws.FnExactMayWait", spec := "fnExactMayWait", apart := false }
def FnExactMayWaitSaid : Prop := fnExactMayWaitRow.holds Try.pinned (OpenSpec.ofChange fnExactMayWaitSpec)

/-- ITS FALSE NEIGHBOUR: 'it returns false'. Refute it at one input. -/
def fnExactMayWaitWrong : ChangeSpec := { name := "fnExactMayWait", fn := fun _ => fun
  | [d1, d2, d3, d4, d5] => { results := [.lit (.bool false)], args := [d1, d2, d3, d4, d5] }
  | _ => none }
def FnExactMayWaitWrongFalsely : Prop := fnExactMayWaitRow.holds Try.pinned (OpenSpec.ofChange fnExactMayWaitWrong)

/-- 'laws.FnExactMayGo': WHATEVER THE INPUT: true; the input reads as it did. -/
def fnExactMayGoSpec : ChangeSpec := { name := "fnExactMayGo", fn := fun _ => fun
  | [d1, d2, d3, d4, d5, d6] => { results := [.lit (.bool true)], args := [d1, d2, d3, d4, d5, d6] }
  | _ => none }
def fnExactMayGoRow : OpenClaim := { program := "ytoppjiahnchjiaa", sum := "315e406a42246fa72fd947f4f7b26102ea671ab3acd9a05b2e1d7fb03aebfd39", func := "loop.example/g03008/laws.FnExactMayGo", spec := "fnExactMayGo", apart := false }
def FnExactMayGoSaid : Prop := fnExactMayGoRow.holds Try.pinned (OpenSpec.ofChange fnExactMayGoSpec)

/-- ITS FALSE NEIGHBOUR: 'it returns false'. Refute it at one input. -/
def fnExactMayGoWrong : ChangeSpec := { name := "fnExactMayGo", fn := fun _ => fun
  | [d1, d2, d3, d4, d5, d6] => { results := [.lit (.bool false)], args := [d1, d2, d3, d4, d5, d6] }
  | _ => none }
def FnExactMayGoWrongFalsely : Prop := fnExactMayGoRow.holds Try.pinned (OpenSpec.ofChange fnExactMayGoWrong)

/- THE SECOND FORM. 'bulk': how many values and letters a reading holds, each counted each time it is reached (what is shared counts as often as it is met; a slice's spare places count too). A statement '..UptoSaid' is the law's where the arguments, and the package variables that the reading takes, are together of bulk at most 1048576: NARROWER than '..Said'. Prove '..Said' where nothing that the law and all that it calls make is longer than what came in: it says more and counts as full. Else prove '..UptoSaid'. A law counts once. -/
mutual
def uptoBulk {H : Type} : DataW H → Nat
  | .lit (.string bytes) => bytes.length + 1
  | .lit _ => 1
  | .nil => 1
  | .ptr d => uptoBulk d + 1
  | .slice elems spare => uptoBulkAll elems + uptoBulkAll spare + 1
  | .agg parts => uptoBulkAll parts + 1
  | .iface _ d => uptoBulk d + 1
  | .map entries => uptoBulkEntries entries + 1
  | .held _ => 1
def uptoBulkAll {H : Type} : List (DataW H) → Nat
  | [] => 0
  | d :: r => uptoBulk d + uptoBulkAll r
def uptoBulkEntries {H : Type} : List (Lit × DataW H) → Nat
  | [] => 0
  | x :: r => uptoBulkEntry x + uptoBulkEntries r
def uptoBulkEntry {H : Type} : Lit × DataW H → Nat
  | (.string bytes, d) => bytes.length + uptoBulk d + 1
  | (_, d) => uptoBulk d + 1
 end
def uptoSmall : (H : Type) → List (DataW H) → Bool := fun _ ds => decide (uptoBulkAll ds ≤ 1048576)
def OpenSpec.upto (s : _root_.Go.ChangeSpec) : _root_.Go.OpenSpec := { _root_.Go.OpenSpec.ofChange s with cond := some uptoSmall }

/-- 'laws.FnExactLeftAtHome', WHERE WHAT IT READS IS OF BULK AT MOST 1048576: true; the input reads as it did. -/
def fnExactLeftAtHomeUptoRow : OpenClaim := { program := "ytoppjiahnchjiaa", sum := "315e406a42246fa72fd947f4f7b26102ea671ab3acd9a05b2e1d7fb03aebfd39", func := "loop.example/g03008/laws.FnExactLeftAtHome", spec := "fnExactLeftAtHome", apart := false, narrowed := true }
def FnExactLeftAtHomeUptoSaid : Prop := fnExactLeftAtHomeUptoRow.holds Try.pinned (OpenSpec.upto fnExactLeftAtHomeSpec)

/-- 'laws.FnExactCanReturn', WHERE WHAT IT READS IS OF BULK AT MOST 1048576: true; the input reads as it did. -/
def fnExactCanReturnUptoRow : OpenClaim := { program := "ytoppjiahnchjiaa", sum := "315e406a42246fa72fd947f4f7b26102ea671ab3acd9a05b2e1d7fb03aebfd39", func := "loop.example/g03008/laws.FnExactCanReturn", spec := "fnExactCanReturn", apart := false, narrowed := true }
def FnExactCanReturnUptoSaid : Prop := fnExactCanReturnUptoRow.holds Try.pinned (OpenSpec.upto fnExactCanReturnSpec)

/-- 'laws.FnExactMayWait', WHERE WHAT IT READS IS OF BULK AT MOST 1048576: true; the input reads as it did. -/
def fnExactMayWaitUptoRow : OpenClaim := { program := "ytoppjiahnchjiaa", sum := "315e406a42246fa72fd947f4f7b26102ea671ab3acd9a05b2e1d7fb03aebfd39", func := "loop.example/g03008/laws.FnExactMayWait", spec := "fnExactMayWait", apart := false, narrowed := true }
def FnExactMayWaitUptoSaid : Prop := fnExactMayWaitUptoRow.holds Try.pinned (OpenSpec.upto fnExactMayWaitSpec)

/-- 'laws.FnExactMayGo', WHERE WHAT IT READS IS OF BULK AT MOST 1048576: true; the input reads as it did. -/
def fnExactMayGoUptoRow : OpenClaim := { program := "ytoppjiahnchjiaa", sum := "315e406a42246fa72fd947f4f7b26102ea671ab3acd9a05b2e1d7fb03aebfd39", func := "loop.example/g03008/laws.FnExactMayGo", spec := "fnExactMayGo", apart := false, narrowed := true }
def FnExactMayGoUptoSaid : Prop := fnExactMayGoUptoRow.holds Try.pinned (OpenSpec.upto fnExactMayGoSpec)

end Rows
end Go.Proofs.Ytoppjiahnchjiaa
