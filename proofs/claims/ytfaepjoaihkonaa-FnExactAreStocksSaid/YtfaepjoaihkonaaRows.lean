/-
  No cell of these rows narrows 'for every input' (looked for: loops, veiled, ifaces, maps, wideKeys, modest, calm, conditions, laid).
  DERIVED. THE GIVEN ROWS OF THIS SEAT. 6 by the template 'for every input the law returns true; each argument reads behind the call as it read before'; 0 by the template 'total and deterministic' (their statements: YtfaepjoaihkonaaTotals.lean).
  GIVEN WITH THE SEED: the statements are not yours to turn. If you find one false, say at which input.
  Laid BY PROGRAM, IN A SANDBOX (cutbox-rows.mjs): the forced cells as the released guide's own fill.sh prints them over the translation f83632ec168fff98… (all of the seat's roots in one cut). By AI agents, Wed Nov 11 2026. No macro, syntax, notation, axiom, sorry.
-/
import Derived.Test.YtfaepjoaihkonaaChecked
import GoSem.Claim
import GoSem.ClaimJoined
import GoSem.ClaimMapViews
import Derived.JoinedTies
import Derived.KernelRfl
namespace Go.Proofs.Ytfaepjoaihkonaa
/- THE CELL 'sum', in the pinned program and in every row, IS THE sha256 OF THE DUMP (.gsa) THAT YtfaepjoaihkonaaProg.lean LOADS. Nothing in Lean hashes anything: it is a label: what it is worth is what the hold of that sum in a sandbox is worth. -/
noncomputable def Try.pinned : Pinned := { name := "ytfaepjoaihkonaa", sum := "f83632ec168fff98f0f1aeb9da97b99f077dcb16608f9145b4d9fc43b38b9aa7", checked := Try.checked }
namespace Rows
def none {H : Type} : Left H := { results := [], args := [] }

/-- 'laws.FnExactSumOf': WHATEVER THE INPUT: true; the input reads as it did. -/
def fnExactSumOfSpec : ChangeSpec := { name := "fnExactSumOf", fn := fun _ => fun
  | [d] => { results := [.lit (.bool true)], args := [d] }
  | _ => none }
def fnExactSumOfRow : OpenClaim := { program := "ytfaepjoaihkonaa", sum := "f83632ec168fff98f0f1aeb9da97b99f077dcb16608f9145b4d9fc43b38b9aa7", func := "loop.example/g03008/laws.FnExactSumOf", spec := "fnExactSumOf", apart := false }
def FnExactSumOfSaid : Prop := fnExactSumOfRow.holds Try.pinned (OpenSpec.ofChange fnExactSumOfSpec)

/-- ITS FALSE NEIGHBOUR: 'it returns false'. Refute it at one input. -/
def fnExactSumOfWrong : ChangeSpec := { name := "fnExactSumOf", fn := fun _ => fun
  | [d] => { results := [.lit (.bool false)], args := [d] }
  | _ => none }
def FnExactSumOfWrongFalsely : Prop := fnExactSumOfRow.holds Try.pinned (OpenSpec.ofChange fnExactSumOfWrong)

/-- 'laws.FnExactPastText': WHATEVER THE INPUT: true; the input reads as it did. -/
def fnExactPastTextSpec : ChangeSpec := { name := "fnExactPastText", fn := fun _ => fun
  | [d] => { results := [.lit (.bool true)], args := [d] }
  | _ => none }
def fnExactPastTextRow : OpenClaim := { program := "ytfaepjoaihkonaa", sum := "f83632ec168fff98f0f1aeb9da97b99f077dcb16608f9145b4d9fc43b38b9aa7", func := "loop.example/g03008/laws.FnExactPastText", spec := "fnExactPastText", apart := false }
def FnExactPastTextSaid : Prop := fnExactPastTextRow.holds Try.pinned (OpenSpec.ofChange fnExactPastTextSpec)

/-- ITS FALSE NEIGHBOUR: 'it returns false'. Refute it at one input. -/
def fnExactPastTextWrong : ChangeSpec := { name := "fnExactPastText", fn := fun _ => fun
  | [d] => { results := [.lit (.bool false)], args := [d] }
  | _ => none }
def FnExactPastTextWrongFalsely : Prop := fnExactPastTextRow.holds Try.pinned (OpenSpec.ofChange fnExactPastTextWrong)

/-- 'laws.FnExactFlipFlash': WHATEVER THE INPUT: true; the input reads as it did. -/
def fnExactFlipFlashSpec : ChangeSpec := { name := "fnExactFlipFlash", fn := fun _ => fun
  | [d1, d2] => { results := [.lit (.bool true)], args := [d1, d2] }
  | _ => none }
def fnExactFlipFlashRow : OpenClaim := { program := "ytfaepjoaihkonaa", sum := "f83632ec168fff98f0f1aeb9da97b99f077dcb16608f9145b4d9fc43b38b9aa7", func := "loop.example/g03008/laws.FnExactFlipFlash", spec := "fnExactFlipFlash", apart := false }
def FnExactFlipFlashSaid : Prop := fnExactFlipFlashRow.holds Try.pinned (OpenSpec.ofChange fnExactFlipFlashSpec)

/-- ITS FALSE NEIGHBOUR: 'it returns false'. Refute it at one input. -/
def fnExactFlipFlashWrong : ChangeSpec := { name := "fnExactFlipFlash", fn := fun _ => fun
  | [d1, d2] => { results := [.lit (.bool false)], args := [d1, d2] }
  | _ => none }
def FnExactFlipFlashWrongFalsely : Prop := fnExactFlipFlashRow.holds Try.pinned (OpenSpec.ofChange fnExactFlipFlashWrong)

/-- 'laws.FnExactSumAt': WHATEVER THE INPUT: true; the input reads as it did. -/
def fnExactSumAtSpec : ChangeSpec := { name := "fnExactSumAt", fn := fun _ => fun
  | [d1, d2] => { results := [.lit (.bool true)], args := [d1, d2] }
  | _ => none }
def fnExactSumAtRow : OpenClaim := { program := "ytfaepjoaihkonaa", sum := "f83632ec168fff98f0f1aeb9da97b99f077dcb16608f9145b4d9fc43b38b9aa7", func := "loop.example/g03008/laws.FnExactSumAt", spec := "fnExactSumAt", apart := false }
def FnExactSumAtSaid : Prop := fnExactSumAtRow.holds Try.pinned (OpenSpec.ofChange fnExactSumAtSpec)

/-- ITS FALSE NEIGHBOUR: 'it returns false'. Refute it at one input. -/
def fnExactSumAtWrong : ChangeSpec := { name := "fnExactSumAt", fn := fun _ => fun
  | [d1, d2] => { results := [.lit (.bool false)], args := [d1, d2] }
  | _ => none }
def FnExactSumAtWrongFalsely : Prop := fnExactSumAtRow.holds Try.pinned (OpenSpec.ofChange fnExactSumAtWrong)

/-- 'laws.FnExactHeaviestFirst': WHATEVER THE INPUT: true; the input reads as it did. -/
def fnExactHeaviestFirstSpec : ChangeSpec := { name := "fnExactHeaviestFirst", fn := fun _ => fun
  | [d] => { results := [.lit (.bool true)], args := [d] }
  | _ => none }
def fnExactHeaviestFirstRow : OpenClaim := { program := "ytfaepjoaihkonaa", sum := "f83632ec168fff98f0f1aeb9da97b99f077dcb16608f9145b4d9fc43b38b9aa7", func := "loop.example/g03008/laws.FnExactHeaviestFirst", spec := "fnExactHeaviestFirst", apart := false }
def FnExactHeaviestFirstSaid : Prop := fnExactHeaviestFirstRow.holds Try.pinned (OpenSpec.ofChange fnExactHeaviestFirstSpec)

/-- ITS FALSE NEIGHBOUR: 'it returns false'. Refute it at one input. -/
def fnExactHeaviestFirstWrong : ChangeSpec := { name := "fnExactHeaviestFirst", fn := fun _ => fun
  | [d] => { results := [.lit (.bool false)], args := [d] }
  | _ => none }
def FnExactHeaviestFirstWrongFalsely : Prop := fnExactHeaviestFirstRow.holds Try.pinned (OpenSpec.ofChange fnExactHeaviestFirstWrong)

/-- 'laws.FnExactAreStocks': WHATEVER THE INPUT: true; the input reads as it did. -/
def fnExactAreStocksSpec : ChangeSpec := { name := "fnExactAreStocks", fn := fun _ => fun
  | [d] => { results := [.lit (.bool true)], args := [d] }
  | _ => none }
def fnExactAreStocksRow : OpenClaim := { program := "ytfaepjoaihkonaa", sum := "f83632ec168fff98f0f1aeb9da97b99f077dcb16608f9145b4d9fc43b38b9aa7", func := "loop.example/g03008/laws.FnExactAreStocks", spec := "fnExactAreStocks", apart := false }
def FnExactAreStocksSaid : Prop := fnExactAreStocksRow.holds Try.pinned (OpenSpec.ofChange fnExactAreStocksSpec)

/-- ITS FALSE NEIGHBOUR: 'it returns false'. Refute it at one input. -/
def fnExactAreStocksWrong : ChangeSpec := { name := "fnExactAreStocks", fn := fun _ => fun
  | [d] => { results := [.lit (.bool false)], args := [d] }
  | _ => none }
def FnExactAreStocksWrongFalsely : Prop := fnExactAreStocksRow.holds Try.pinned (OpenSpec.ofChange fnExactAreStocksWrong)

/- THE SECOND FORM. 'bulk': how many values and letters a reading holds, each counted each time it is reached (what is shared counts as often as it is met; a slice's spare places count too). A statement '..UptoSaid' is the law's where the arguments, and the package variables that the reading takes, are together of bulk at most 1048576: NARROWER than '..Said'. Prove '..Said' where nothing that the law and all that it calls make is longer than what came in: it says more and counts as full. Else prove '..UptoSaid'. A law counts once. -/
mutual
def uptoBulk {H : Type} : DataW H → Nat
  | .lit (.string bytes) => bytes.length + 1
  | .lit _ => 1
  | .nil => 1
  | .ptr d => uptoBulk d + 1
  | .slice elems spare => uptoBulkAll elems + uptoBulkAll spare + 1
  | .agg parts => uptoBulkAll parts + 1
  | .iface _ d => uptoBulk d + 1
  | .map entries => uptoBulkEntries entries + 1
  | .held _ => 1
def uptoBulkAll {H : Type} : List (DataW H) → Nat
  | [] => 0
  | d :: r => uptoBulk d + uptoBulkAll r
def uptoBulkEntries {H : Type} : List (Lit × DataW H) → Nat
  | [] => 0
  | x :: r => uptoBulkEntry x + uptoBulkEntries r
def uptoBulkEntry {H : Type} : Lit × DataW H → Nat
  | (.string bytes, d) => bytes.length + uptoBulk d + 1
  | (_, d) => uptoBulk d + 1
 end
def uptoSmall : (H : Type) → List (DataW H) → Bool := fun _ ds => decide (uptoBulkAll ds ≤ 1048576)
def OpenSpec.upto (s : _root_.Go.ChangeSpec) : _root_.Go.OpenSpec := { _root_.Go.OpenSpec.ofChange s with cond := some uptoSmall }

/-- 'laws.FnExactSumOf', WHERE WHAT IT READS IS OF BULK AT MOST 1048576: true; the input reads as it did. -/
def fnExactSumOfUptoRow : OpenClaim := { program := "ytfaepjoaihkonaa", sum := "f83632ec168fff98f0f1aeb9da97b99f077dcb16608f9145b4d9fc43b38b9aa7", func := "loop.example/g03008/laws.FnExactSumOf", spec := "fnExactSumOf", apart := false, narrowed := true }
def FnExactSumOfUptoSaid : Prop := fnExactSumOfUptoRow.holds Try.pinned (OpenSpec.upto fnExactSumOfSpec)

/-- 'laws.FnExactPastText', WHERE WHAT IT READS IS OF BULK AT MOST 1048576: true; the input reads as it did. -/
def fnExactPastTextUptoRow : OpenClaim := { program := "ytfaepjoaihkonaa", sum := "f83632ec168fff98f0f1aeb9da97b99f077dcb16608f9145b4d9fc43b38b9aa7", func := "loop.example/g03008/laws.FnExactPastText", spec := "fnExactPastText", apart := false, narrowed := true }
def FnExactPastTextUptoSaid : Prop := fnExactPastTextUptoRow.holds Try.pinned (OpenSpec.upto fnExactPastTextSpec)

/-- 'laws.FnExactFlipFlash', WHERE WHAT IT READS IS OF BULK AT MOST 1048576: true; the input reads as it did. -/
def fnExactFlipFlashUptoRow : OpenClaim := { program := "ytfaepjoaihkonaa", sum := "f83632ec168fff98f0f1aeb9da97b99f077dcb16608f9145b4d9fc43b38b9aa7", func := "loop.example/g03008/laws.FnExactFlipFlash", spec := "fnExactFlipFlash", apart := false, narrowed := true }
def FnExactFlipFlashUptoSaid : Prop := fnExactFlipFlashUptoRow.holds Try.pinned (OpenSpec.upto fnExactFlipFlashSpec)

/-- 'laws.FnExactSumAt', WHERE WHAT IT READS IS OF BULK AT MOST 1048576: true; the input reads as it did. -/
def fnExactSumAtUptoRow : OpenClaim := { program := "ytfaepjoaihkonaa", sum := "f83632ec168fff98f0f1aeb9da97b99f077dcb16608f9145b4d9fc43b38b9aa7", func := "loop.example/g03008/laws.FnExactSumAt", spec := "fnExactSumAt", apart := false, narrowed := true }
def FnExactSumAtUptoSaid : Prop := fnExactSumAtUptoRow.holds Try.pinned (OpenSpec.upto fnExactSumAtSpec)

/-- 'laws.FnExactHeaviestFirst', WHERE WHAT IT READS IS OF BULK AT MOST 1048576: true; the input reads as it did. -/
def fnExactHeaviestFirstUptoRow : OpenClaim := { program := "ytfaepjoaihkonaa", sum := "f83632ec168fff98f0f1aeb9da97b99f077dcb16608f9145b4d9fc43b38b9aa7", func := "loop.example/g03008/laws.FnExactHeaviestFirst", spec := "fnExactHeaviestFirst", apart := false, narrowed := true }
def FnExactHeaviestFirstUptoSaid : Prop := fnExactHeaviestFirstUptoRow.holds Try.pinned (OpenSpec.upto fnExactHeaviestFirstSpec)

/-- 'laws.FnExactAreStocks', WHERE WHAT IT READS IS OF BULK AT MOST 1048576: true; the input reads as it did. -/
def fnExactAreStocksUptoRow : OpenClaim := { program := "ytfaepjoaihkonaa", sum := "f83632ec168fff98f0f1aeb9da97b99f077dcb16608f9145b4d9fc43b38b9aa7", func := "loop.example/g03008/laws.FnExactAreStocks", spec := "fnExactAreStocks", apart := false, narrowed := true }
def FnExactAreStocksUptoSaid : Prop := fnExactAreStocksUptoRow.holds Try.pinned (OpenSpec.upto fnExactAreStocksSpec)

end Rows
end Go.Proofs.Ytfaepjoaihkonaa
