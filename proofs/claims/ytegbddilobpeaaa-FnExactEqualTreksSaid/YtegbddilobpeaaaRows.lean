/-
  No cell of these rows narrows 'for every input' (looked for: loops, veiled, ifaces, maps, wideKeys, modest, calm, conditions, laid).
  DERIVED. THE GIVEN ROWS OF THIS SEAT. 10 by the template 'for every input the law returns true; each argument reads behind the call as it read before'; 0 by the template 'total and deterministic' (their statements: YtegbddilobpeaaaTotals.lean).
  GIVEN WITH THE SEED: the statements are not yours to turn. If you find one false, say at which input.
  Laid BY PROGRAM, IN A SANDBOX (cutbox-rows.mjs): the forced cells as the released guide's own fill.sh prints them over the translation e76c904fe413ab4e… (all of the seat's roots in one cut). By AI agents, Wed Nov 11 2026. No macro, syntax, notation, axiom, sorry.
-/
import Derived.Test.YtegbddilobpeaaaChecked
import GoSem.Claim
import GoSem.ClaimJoined
import GoSem.ClaimMapViews
import Derived.JoinedTies
import Derived.KernelRfl
namespace Go.Proofs.Ytegbddilobpeaaa
/- THE CELL 'sum', in the pinned program and in every row, IS THE sha256 OF THE DUMP (.gsa) THAT YtegbddilobpeaaaProg.lean LOADS. Nothing in Lean hashes anything: it is a label: what it is worth is what the hold of that sum in a sandbox is worth. -/
noncomputable def Try.pinned : Pinned := { name := "ytegbddilobpeaaa", sum := "e76c904fe413ab4e89ed42ac28e57ccd9cc91bf2dc7d6cd10e5214f496306ebf", checked := Try.checked }
namespace Rows
def none {H : Type} : Left H := { results := [], args := [] }

/-- 'laws.FnExactHeaviestFirst': WHATEVER THE INPUT: true; the input reads as it did. -/
def fnExactHeaviestFirstSpec : ChangeSpec := { name := "fnExactHeaviestFirst", fn := fun _ => fun
  | [d] => { results := [.lit (.bool true)], args := [d] }
  | _ => none }
def fnExactHeaviestFirstRow : OpenClaim := { program := "ytegbddilobpeaaa", sum := "e76c904fe413ab4e89ed42ac28e57ccd9cc91bf2dc7d6cd10e5214f496306ebf", func := "loop.example/g03008/laws.FnExactHeaviestFirst", spec := "fnExactHeaviestFirst", apart := false }
def FnExactHeaviestFirstSaid : Prop := fnExactHeaviestFirstRow.holds Try.pinned (OpenSpec.ofChange fnExactHeaviestFirstSpec)

/-- ITS FALSE NEIGHBOUR: 'it returns false'. Refute it at one input. -/
def fnExactHeaviestFirstWrong : ChangeSpec := { name := "fnExactHeaviestFirst", fn := fun _ => fun
  | [d] => { results := [.lit (.bool false)], args := [d] }
  | _ => none }
def FnExactHeaviestFirstWrongFalsely : Prop := fnExactHeaviestFirstRow.holds Try.pinned (OpenSpec.ofChange fnExactHeaviestFirstWrong)

/-- 'laws.FnExactCanReach': WHATEVER THE INPUT: true; the input reads as it did. -/
def fnExactCanReachSpec : ChangeSpec := { name := "fnExactCanReach", fn := fun _ => fun
  | [d1, d2] => { results := [.lit (.bool true)], args := [d1, d2] }
  | _ => none }
def fnExactCanReachRow : OpenClaim := { program := "ytegbddilobpeaaa", sum := "e76c904fe413ab4e89ed42ac28e57ccd9cc91bf2dc7d6cd10e5214f496306ebf", func := "loop.example/g03008/laws.FnExactCanReach", spec := "fnExactCanReach", apart := false }
def FnExactCanReachSaid : Prop := fnExactCanReachRow.holds Try.pinned (OpenSpec.ofChange fnExactCanReachSpec)

/-- ITS FALSE NEIGHBOUR: 'it returns false'. Refute it at one input. -/
def fnExactCanReachWrong : ChangeSpec := { name := "fnExactCanReach", fn := fun _ => fun
  | [d1, d2] => { results := [.lit (.bool false)], args := [d1, d2] }
  | _ => none }
def FnExactCanReachWrongFalsely : Prop := fnExactCanReachRow.holds Try.pinned (OpenSpec.ofChange fnExactCanReachWrong)

/-- 'laws.FnSledges': WHATEVER THE INPUT: true; the input reads as it did. -/
def fnSledgesSpec : ChangeSpec := { name := "fnSledges", fn := fun _ => fun
  | [d] => { results := [.lit (.bool true)], args := [d] }
  | _ => none }
def fnSledgesRow : OpenClaim := { program := "ytegbddilobpeaaa", sum := "e76c904fe413ab4e89ed42ac28e57ccd9cc91bf2dc7d6cd10e5214f496306ebf", func := "loop.example/g03008/laws.FnSledges", spec := "fnSledges", apart := false }
def FnSledgesSaid : Prop := fnSledgesRow.holds Try.pinned (OpenSpec.ofChange fnSledgesSpec)

/-- ITS FALSE NEIGHBOUR: 'it returns false'. Refute it at one input. -/
def fnSledgesWrong : ChangeSpec := { name := "fnSledges", fn := fun _ => fun
  | [d] => { results := [.lit (.bool false)], args := [d] }
  | _ => none }
def FnSledgesWrongFalsely : Prop := fnSledgesRow.holds Try.pinned (OpenSpec.ofChange fnSledgesWrong)

/-- 'laws.FnStores': WHATEVER THE INPUT: true; the input reads as it did. -/
def fnStoresSpec : ChangeSpec := { name := "fnStores", fn := fun _ => fun
  | [d] => { results := [.lit (.bool true)], args := [d] }
  | _ => none }
def fnStoresRow : OpenClaim := { program := "ytegbddilobpeaaa", sum := "e76c904fe413ab4e89ed42ac28e57ccd9cc91bf2dc7d6cd10e5214f496306ebf", func := "loop.example/g03008/laws.FnStores", spec := "fnStores", apart := false }
def FnStoresSaid : Prop := fnStoresRow.holds Try.pinned (OpenSpec.ofChange fnStoresSpec)

/-- ITS FALSE NEIGHBOUR: 'it returns false'. Refute it at one input. -/
def fnStoresWrong : ChangeSpec := { name := "fnStores", fn := fun _ => fun
  | [d] => { results := [.lit (.bool false)], args := [d] }
  | _ => none }
def FnStoresWrongFalsely : Prop := fnStoresRow.holds Try.pinned (OpenSpec.ofChange fnStoresWrong)

/-- 'laws.FnSigns': WHATEVER THE INPUT: true; the input reads as it did. -/
def fnSignsSpec : ChangeSpec := { name := "fnSigns", fn := fun _ => fun
  | [d] => { results := [.lit (.bool true)], args := [d] }
  | _ => none }
def fnSignsRow : OpenClaim := { program := "ytegbddilobpeaaa", sum := "e76c904fe413ab4e89ed42ac28e57ccd9cc91bf2dc7d6cd10e5214f496306ebf", func := "loop.example/g03008/laws.FnSigns", spec := "fnSigns", apart := false }
def FnSignsSaid : Prop := fnSignsRow.holds Try.pinned (OpenSpec.ofChange fnSignsSpec)

/-- ITS FALSE NEIGHBOUR: 'it returns false'. Refute it at one input. -/
def fnSignsWrong : ChangeSpec := { name := "fnSigns", fn := fun _ => fun
  | [d] => { results := [.lit (.bool false)], args := [d] }
  | _ => none }
def FnSignsWrongFalsely : Prop := fnSignsRow.holds Try.pinned (OpenSpec.ofChange fnSignsWrong)

/-- 'laws.FnShares': WHATEVER THE INPUT: true; the input reads as it did. -/
def fnSharesSpec : ChangeSpec := { name := "fnShares", fn := fun _ => fun
  | [d] => { results := [.lit (.bool true)], args := [d] }
  | _ => none }
def fnSharesRow : OpenClaim := { program := "ytegbddilobpeaaa", sum := "e76c904fe413ab4e89ed42ac28e57ccd9cc91bf2dc7d6cd10e5214f496306ebf", func := "loop.example/g03008/laws.FnShares", spec := "fnShares", apart := false }
def FnSharesSaid : Prop := fnSharesRow.holds Try.pinned (OpenSpec.ofChange fnSharesSpec)

/-- ITS FALSE NEIGHBOUR: 'it returns false'. Refute it at one input. -/
def fnSharesWrong : ChangeSpec := { name := "fnShares", fn := fun _ => fun
  | [d] => { results := [.lit (.bool false)], args := [d] }
  | _ => none }
def FnSharesWrongFalsely : Prop := fnSharesRow.holds Try.pinned (OpenSpec.ofChange fnSharesWrong)

/-- 'laws.FnExactPickUp': WHATEVER THE INPUT: true; the input reads as it did. -/
def fnExactPickUpSpec : ChangeSpec := { name := "fnExactPickUp", fn := fun _ => fun
  | [d1, d2] => { results := [.lit (.bool true)], args := [d1, d2] }
  | _ => none }
def fnExactPickUpRow : OpenClaim := { program := "ytegbddilobpeaaa", sum := "e76c904fe413ab4e89ed42ac28e57ccd9cc91bf2dc7d6cd10e5214f496306ebf", func := "loop.example/g03008/laws.FnExactPickUp", spec := "fnExactPickUp", apart := false }
def FnExactPickUpSaid : Prop := fnExactPickUpRow.holds Try.pinned (OpenSpec.ofChange fnExactPickUpSpec)

/-- ITS FALSE NEIGHBOUR: 'it returns false'. Refute it at one input. -/
def fnExactPickUpWrong : ChangeSpec := { name := "fnExactPickUp", fn := fun _ => fun
  | [d1, d2] => { results := [.lit (.bool false)], args := [d1, d2] }
  | _ => none }
def FnExactPickUpWrongFalsely : Prop := fnExactPickUpRow.holds Try.pinned (OpenSpec.ofChange fnExactPickUpWrong)

/-- 'laws.FnParties': WHATEVER THE INPUT: true; the input reads as it did. -/
def fnPartiesSpec : ChangeSpec := { name := "fnParties", fn := fun _ => fun
  | [d] => { results := [.lit (.bool true)], args := [d] }
  | _ => none }
def fnPartiesRow : OpenClaim := { program := "ytegbddilobpeaaa", sum := "e76c904fe413ab4e89ed42ac28e57ccd9cc91bf2dc7d6cd10e5214f496306ebf", func := "loop.example/g03008/laws.FnParties", spec := "fnParties", apart := false }
def FnPartiesSaid : Prop := fnPartiesRow.holds Try.pinned (OpenSpec.ofChange fnPartiesSpec)

/-- ITS FALSE NEIGHBOUR: 'it returns false'. Refute it at one input. -/
def fnPartiesWrong : ChangeSpec := { name := "fnParties", fn := fun _ => fun
  | [d] => { results := [.lit (.bool false)], args := [d] }
  | _ => none }
def FnPartiesWrongFalsely : Prop := fnPartiesRow.holds Try.pinned (OpenSpec.ofChange fnPartiesWrong)

/-- 'laws.FnExactAtBase': WHATEVER THE INPUT: true; the input reads as it did. -/
def fnExactAtBaseSpec : ChangeSpec := { name := "fnExactAtBase", fn := fun _ => fun
  | [d] => { results := [.lit (.bool true)], args := [d] }
  | _ => none }
def fnExactAtBaseRow : OpenClaim := { program := "ytegbddilobpeaaa", sum := "e76c904fe413ab4e89ed42ac28e57ccd9cc91bf2dc7d6cd10e5214f496306ebf", func := "loop.example/g03008/laws.FnExactAtBase", spec := "fnExactAtBase", apart := false }
def FnExactAtBaseSaid : Prop := fnExactAtBaseRow.holds Try.pinned (OpenSpec.ofChange fnExactAtBaseSpec)

/-- ITS FALSE NEIGHBOUR: 'it returns false'. Refute it at one input. -/
def fnExactAtBaseWrong : ChangeSpec := { name := "fnExactAtBase", fn := fun _ => fun
  | [d] => { results := [.lit (.bool false)], args := [d] }
  | _ => none }
def FnExactAtBaseWrongFalsely : Prop := fnExactAtBaseRow.holds Try.pinned (OpenSpec.ofChange fnExactAtBaseWrong)

/-- 'laws.FnExactEqualTreks': WHATEVER THE INPUT: true; the input reads as it did. -/
def fnExactEqualTreksSpec : ChangeSpec := { name := "fnExactEqualTreks", fn := fun _ => fun
  | [d1, d2] => { results := [.lit (.bool true)], args := [d1, d2] }
  | _ => none }
def fnExactEqualTreksRow : OpenClaim := { program := "ytegbddilobpeaaa", sum := "e76c904fe413ab4e89ed42ac28e57ccd9cc91bf2dc7d6cd10e5214f496306ebf", func := "loop.example/g03008/laws.FnExactEqualTreks", spec := "fnExactEqualTreks", apart := false }
def FnExactEqualTreksSaid : Prop := fnExactEqualTreksRow.holds Try.pinned (OpenSpec.ofChange fnExactEqualTreksSpec)

/-- ITS FALSE NEIGHBOUR: 'it returns false'. Refute it at one input. -/
def fnExactEqualTreksWrong : ChangeSpec := { name := "fnExactEqualTreks", fn := fun _ => fun
  | [d1, d2] => { results := [.lit (.bool false)], args := [d1, d2] }
  | _ => none }
def FnExactEqualTreksWrongFalsely : Prop := fnExactEqualTreksRow.holds Try.pinned (OpenSpec.ofChange fnExactEqualTreksWrong)

/- THE SECOND FORM. 'bulk': how many values and letters a reading holds, each counted each time it is reached (what is shared counts as often as it is met; a slice's spare places count too). A statement '..UptoSaid' is the law's where the arguments, and the package variables that the reading takes, are together of bulk at most 1048576: NARROWER than '..Said'. Prove '..Said' where nothing that the law and all that it calls make is longer than what came in: it says more and counts as full. Else prove '..UptoSaid'. A law counts once. -/
mutual
def uptoBulk {H : Type} : DataW H → Nat
  | .lit (.string bytes) => bytes.length + 1
  | .lit _ => 1
  | .nil => 1
  | .ptr d => uptoBulk d + 1
  | .slice elems spare => uptoBulkAll elems + uptoBulkAll spare + 1
  | .agg parts => uptoBulkAll parts + 1
  | .iface _ d => uptoBulk d + 1
  | .map entries => uptoBulkEntries entries + 1
  | .held _ => 1
def uptoBulkAll {H : Type} : List (DataW H) → Nat
  | [] => 0
  | d :: r => uptoBulk d + uptoBulkAll r
def uptoBulkEntries {H : Type} : List (Lit × DataW H) → Nat
  | [] => 0
  | x :: r => uptoBulkEntry x + uptoBulkEntries r
def uptoBulkEntry {H : Type} : Lit × DataW H → Nat
  | (.string bytes, d) => bytes.length + uptoBulk d + 1
  | (_, d) => uptoBulk d + 1
 end
def uptoSmall : (H : Type) → List (DataW H) → Bool := fun _ ds => decide (uptoBulkAll ds ≤ 1048576)
def OpenSpec.upto (s : _root_.Go.ChangeSpec) : _root_.Go.OpenSpec := { _root_.Go.OpenSpec.ofChange s with cond := some uptoSmall }

/-- 'laws.FnExactHeaviestFirst', WHERE WHAT IT READS IS OF BULK AT MOST 1048576: true; the input reads as it did. -/
def fnExactHeaviestFirstUptoRow : OpenClaim := { program := "ytegbddilobpeaaa", sum := "e76c904fe413ab4e89ed42ac28e57ccd9cc91bf2dc7d6cd10e5214f496306ebf", func := "loop.example/g03008/laws.FnExactHeaviestFirst", spec := "fnExactHeaviestFirst", apart := false, narrowed := true }
def FnExactHeaviestFirstUptoSaid : Prop := fnExactHeaviestFirstUptoRow.holds Try.pinned (OpenSpec.upto fnExactHeaviestFirstSpec)

/-- 'laws.FnExactCanReach', WHERE WHAT IT READS IS OF BULK AT MOST 1048576: true; the input reads as it did. -/
def fnExactCanReachUptoRow : OpenClaim := { program := "ytegbddilobpeaaa", sum := "e76c904fe413ab4e89ed42ac28e57ccd9cc91bf2dc7d6cd10e5214f496306ebf", func := "loop.example/g03008/laws.FnExactCanReach", spec := "fnExactCanReach", apart := false, narrowed := true }
def FnExactCanReachUptoSaid : Prop := fnExactCanReachUptoRow.holds Try.pinned (OpenSpec.upto fnExactCanReachSpec)

/-- 'laws.FnSledges', WHERE WHAT IT READS IS OF BULK AT MOST 1048576: true; the input reads as it did. -/
def fnSledgesUptoRow : OpenClaim := { program := "ytegbddilobpeaaa", sum := "e76c904fe413ab4e89ed42ac28e57ccd9cc91bf2dc7d6cd10e5214f496306ebf", func := "loop.example/g03008/laws.FnSledges", spec := "fnSledges", apart := false, narrowed := true }
def FnSledgesUptoSaid : Prop := fnSledgesUptoRow.holds Try.pinned (OpenSpec.upto fnSledgesSpec)

/-- 'laws.FnStores', WHERE WHAT IT READS IS OF BULK AT MOST 1048576: true; the input reads as it did. -/
def fnStoresUptoRow : OpenClaim := { program := "ytegbddilobpeaaa", sum := "e76c904fe413ab4e89ed42ac28e57ccd9cc91bf2dc7d6cd10e5214f496306ebf", func := "loop.example/g03008/laws.FnStores", spec := "fnStores", apart := false, narrowed := true }
def FnStoresUptoSaid : Prop := fnStoresUptoRow.holds Try.pinned (OpenSpec.upto fnStoresSpec)

/-- 'laws.FnSigns', WHERE WHAT IT READS IS OF BULK AT MOST 1048576: true; the input reads as it did. -/
def fnSignsUptoRow : OpenClaim := { program := "ytegbddilobpeaaa", sum := "e76c904fe413ab4e89ed42ac28e57ccd9cc91bf2dc7d6cd10e5214f496306ebf", func := "loop.example/g03008/laws.FnSigns", spec := "fnSigns", apart := false, narrowed := true }
def FnSignsUptoSaid : Prop := fnSignsUptoRow.holds Try.pinned (OpenSpec.upto fnSignsSpec)

/-- 'laws.FnShares', WHERE WHAT IT READS IS OF BULK AT MOST 1048576: true; the input reads as it did. -/
def fnSharesUptoRow : OpenClaim := { program := "ytegbddilobpeaaa", sum := "e76c904fe413ab4e89ed42ac28e57ccd9cc91bf2dc7d6cd10e5214f496306ebf", func := "loop.example/g03008/laws.FnShares", spec := "fnShares", apart := false, narrowed := true }
def FnSharesUptoSaid : Prop := fnSharesUptoRow.holds Try.pinned (OpenSpec.upto fnSharesSpec)

/-- 'laws.FnExactPickUp', WHERE WHAT IT READS IS OF BULK AT MOST 1048576: true; the input reads as it did. -/
def fnExactPickUpUptoRow : OpenClaim := { program := "ytegbddilobpeaaa", sum := "e76c904fe413ab4e89ed42ac28e57ccd9cc91bf2dc7d6cd10e5214f496306ebf", func := "loop.example/g03008/laws.FnExactPickUp", spec := "fnExactPickUp", apart := false, narrowed := true }
def FnExactPickUpUptoSaid : Prop := fnExactPickUpUptoRow.holds Try.pinned (OpenSpec.upto fnExactPickUpSpec)

/-- 'laws.FnParties', WHERE WHAT IT READS IS OF BULK AT MOST 1048576: true; the input reads as it did. -/
def fnPartiesUptoRow : OpenClaim := { program := "ytegbddilobpeaaa", sum := "e76c904fe413ab4e89ed42ac28e57ccd9cc91bf2dc7d6cd10e5214f496306ebf", func := "loop.example/g03008/laws.FnParties", spec := "fnParties", apart := false, narrowed := true }
def FnPartiesUptoSaid : Prop := fnPartiesUptoRow.holds Try.pinned (OpenSpec.upto fnPartiesSpec)

/-- 'laws.FnExactAtBase', WHERE WHAT IT READS IS OF BULK AT MOST 1048576: true; the input reads as it did. -/
def fnExactAtBaseUptoRow : OpenClaim := { program := "ytegbddilobpeaaa", sum := "e76c904fe413ab4e89ed42ac28e57ccd9cc91bf2dc7d6cd10e5214f496306ebf", func := "loop.example/g03008/laws.FnExactAtBase", spec := "fnExactAtBase", apart := false, narrowed := true }
def FnExactAtBaseUptoSaid : Prop := fnExactAtBaseUptoRow.holds Try.pinned (OpenSpec.upto fnExactAtBaseSpec)

/-- 'laws.FnExactEqualTreks', WHERE WHAT IT READS IS OF BULK AT MOST 1048576: true; the input reads as it did. -/
def fnExactEqualTreksUptoRow : OpenClaim := { program := "ytegbddilobpeaaa", sum := "e76c904fe413ab4e89ed42ac28e57ccd9cc91bf2dc7d6cd10e5214f496306ebf", func := "loop.example/g03008/laws.FnExactEqualTreks", spec := "fnExactEqualTreks", apart := false, narrowed := true }
def FnExactEqualTreksUptoSaid : Prop := fnExactEqualTreksUptoRow.holds Try.pinned (OpenSpec.upto fnExactEqualTreksSpec)

end Rows
end Go.Proofs.Ytegbddilobpeaaa
