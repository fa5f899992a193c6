/-
  No cell of these rows narrows 'for every input' (looked for: loops, veiled, ifaces, maps, wideKeys, modest, calm, conditions, laid).
  DERIVED. THE GIVEN ROWS OF THIS SEAT. 22 by the template 'for every input the law returns true; each argument reads behind the call as it read before'; 0 by the template 'total and deterministic' (their statements: YtcokbhkjfdddkaaTotals.lean).
  GIVEN WITH THE SEED: the statements are not yours to turn. If you find one false, say at which input.
  Laid BY PROGRAM, IN A SANDBOX (cutbox-rows.mjs): the forced cells as the released guide's own fill.sh prints them over the translation 6a466ee47766bd22… (all of the seat's roots in one cut). By AI agents, Wed Nov 11 2026. No macro, syntax, notation, axiom, sorry.
-/
import Derived.Test.YtcokbhkjfdddkaaChecked
import GoSem.Claim
import GoSem.ClaimJoined
import GoSem.ClaimMapViews
import Derived.JoinedTies
import Derived.KernelRfl
namespace Go.Proofs.Ytcokbhkjfdddkaa
/- THE CELL 'sum', in the pinned program and in every row, IS THE sha256 OF THE DUMP (.gsa) THAT YtcokbhkjfdddkaaProg.lean LOADS. Nothing in Lean hashes anything: it is a label: what it is worth is what the hold of that sum in a sandbox is worth. -/
noncomputable def Try.pinned : Pinned := { name := "ytcokbhkjfdddkaa", sum := "6a466ee47766bd227c5a4aa42329c6ad827f2fbf593337364ffdb9ca9d0b7429", checked := Try.checked }
namespace Rows
def none {H : Type} : Left H := { results := [], args := [] }

/-- 'laws.FnExactCanReach': WHATEVER THE INPUT: true; the input reads as it did. -/
def fnExactCanReachSpec : ChangeSpec := { name := "fnExactCanReach", fn := fun _ => fun
  | [d1, d2] => { results := [.lit (.bool true)], args := [d1, d2] }
  | _ => none }
def fnExactCanReachRow : OpenClaim := { program := "ytcokbhkjfdddkaa", sum := "6a466ee47766bd227c5a4aa42329c6ad827f2fbf593337364ffdb9ca9d0b7429", func := "loop.example/g03008/laws.FnExactCanReach", spec := "fnExactCanReach", apart := false }
def FnExactCanReachSaid : Prop := fnExactCanReachRow.holds Try.pinned (OpenSpec.ofChange fnExactCanReachSpec)

/-- ITS FALSE NEIGHBOUR: 'it returns false'. Refute it at one input. -/
def fnExactCanReachWrong : ChangeSpec := { name := "fnExactCanReach", fn := fun _ => fun
  | [d1, d2] => { results := [.lit (.bool false)], args := [d1, d2] }
  | _ => none }
def FnExactCanReachWrongFalsely : Prop := fnExactCanReachRow.holds Try.pinned (OpenSpec.ofChange fnExactCanReachWrong)

/-- 'laws.FnExactSplitGap': WHATEVER THE INPUT: true; the input reads as it did. -/
def fnExactSplitGapSpec : ChangeSpec := { name := "fnExactSplitGap", fn := fun _ => fun
  | [d1, d2] => { results := [.lit (.bool true)], args := [d1, d2] }
  | _ => none }
def fnExactSplitGapRow : OpenClaim := { program := "ytcokbhkjfdddkaa", sum := "6a466ee47766bd227c5a4aa42329c6ad827f2fbf593337364ffdb9ca9d0b7429", func := "loop.example/g03008/laws.FnExactSplitGap", spec := "fnExactSplitGap", apart := false }
def FnExactSplitGapSaid : Prop := fnExactSplitGapRow.holds Try.pinned (OpenSpec.ofChange fnExactSplitGapSpec)

/-- ITS FALSE NEIGHBOUR: 'it returns false'. Refute it at one input. -/
def fnExactSplitGapWrong : ChangeSpec := { name := "fnExactSplitGap", fn := fun _ => fun
  | [d1, d2] => { results := [.lit (.bool false)], args := [d1, d2] }
  | _ => none }
def FnExactSplitGapWrongFalsely : Prop := fnExactSplitGapRow.holds Try.pinned (OpenSpec.ofChange fnExactSplitGapWrong)

/-- 'laws.FnExactSignOf': WHATEVER THE INPUT: true; the input reads as it did. -/
def fnExactSignOfSpec : ChangeSpec := { name := "fnExactSignOf", fn := fun _ => fun
  | [d] => { results := [.lit (.bool true)], args := [d] }
  | _ => none }
def fnExactSignOfRow : OpenClaim := { program := "ytcokbhkjfdddkaa", sum := "6a466ee47766bd227c5a4aa42329c6ad827f2fbf593337364ffdb9ca9d0b7429", func := "loop.example/g03008/laws.FnExactSignOf", spec := "fnExactSignOf", apart := false }
def FnExactSignOfSaid : Prop := fnExactSignOfRow.holds Try.pinned (OpenSpec.ofChange fnExactSignOfSpec)

/-- ITS FALSE NEIGHBOUR: 'it returns false'. Refute it at one input. -/
def fnExactSignOfWrong : ChangeSpec := { name := "fnExactSignOf", fn := fun _ => fun
  | [d] => { results := [.lit (.bool false)], args := [d] }
  | _ => none }
def FnExactSignOfWrongFalsely : Prop := fnExactSignOfRow.holds Try.pinned (OpenSpec.ofChange fnExactSignOfWrong)

/-- 'laws.FnExactAllOut': WHATEVER THE INPUT: true; the input reads as it did. -/
def fnExactAllOutSpec : ChangeSpec := { name := "fnExactAllOut", fn := fun _ => fun
  | [d] => { results := [.lit (.bool true)], args := [d] }
  | _ => none }
def fnExactAllOutRow : OpenClaim := { program := "ytcokbhkjfdddkaa", sum := "6a466ee47766bd227c5a4aa42329c6ad827f2fbf593337364ffdb9ca9d0b7429", func := "loop.example/g03008/laws.FnExactAllOut", spec := "fnExactAllOut", apart := false }
def FnExactAllOutSaid : Prop := fnExactAllOutRow.holds Try.pinned (OpenSpec.ofChange fnExactAllOutSpec)

/-- ITS FALSE NEIGHBOUR: 'it returns false'. Refute it at one input. -/
def fnExactAllOutWrong : ChangeSpec := { name := "fnExactAllOut", fn := fun _ => fun
  | [d] => { results := [.lit (.bool false)], args := [d] }
  | _ => none }
def FnExactAllOutWrongFalsely : Prop := fnExactAllOutRow.holds Try.pinned (OpenSpec.ofChange fnExactAllOutWrong)

/-- 'laws.FnExactIsFair': WHATEVER THE INPUT: true; the input reads as it did. -/
def fnExactIsFairSpec : ChangeSpec := { name := "fnExactIsFair", fn := fun _ => fun
  | [d1, d2] => { results := [.lit (.bool true)], args := [d1, d2] }
  | _ => none }
def fnExactIsFairRow : OpenClaim := { program := "ytcokbhkjfdddkaa", sum := "6a466ee47766bd227c5a4aa42329c6ad827f2fbf593337364ffdb9ca9d0b7429", func := "loop.example/g03008/laws.FnExactIsFair", spec := "fnExactIsFair", apart := false }
def FnExactIsFairSaid : Prop := fnExactIsFairRow.holds Try.pinned (OpenSpec.ofChange fnExactIsFairSpec)

/-- ITS FALSE NEIGHBOUR: 'it returns false'. Refute it at one input. -/
def fnExactIsFairWrong : ChangeSpec := { name := "fnExactIsFair", fn := fun _ => fun
  | [d1, d2] => { results := [.lit (.bool false)], args := [d1, d2] }
  | _ => none }
def FnExactIsFairWrongFalsely : Prop := fnExactIsFairRow.holds Try.pinned (OpenSpec.ofChange fnExactIsFairWrong)

/-- 'laws.FnExactHasIn': WHATEVER THE INPUT: true; the input reads as it did. -/
def fnExactHasInSpec : ChangeSpec := { name := "fnExactHasIn", fn := fun _ => fun
  | [d1, d2] => { results := [.lit (.bool true)], args := [d1, d2] }
  | _ => none }
def fnExactHasInRow : OpenClaim := { program := "ytcokbhkjfdddkaa", sum := "6a466ee47766bd227c5a4aa42329c6ad827f2fbf593337364ffdb9ca9d0b7429", func := "loop.example/g03008/laws.FnExactHasIn", spec := "fnExactHasIn", apart := false }
def FnExactHasInSaid : Prop := fnExactHasInRow.holds Try.pinned (OpenSpec.ofChange fnExactHasInSpec)

/-- ITS FALSE NEIGHBOUR: 'it returns false'. Refute it at one input. -/
def fnExactHasInWrong : ChangeSpec := { name := "fnExactHasIn", fn := fun _ => fun
  | [d1, d2] => { results := [.lit (.bool false)], args := [d1, d2] }
  | _ => none }
def FnExactHasInWrongFalsely : Prop := fnExactHasInRow.holds Try.pinned (OpenSpec.ofChange fnExactHasInWrong)

/-- 'laws.FnExactLandText': WHATEVER THE INPUT: true; the input reads as it did. -/
def fnExactLandTextSpec : ChangeSpec := { name := "fnExactLandText", fn := fun _ => fun
  | [d] => { results := [.lit (.bool true)], args := [d] }
  | _ => none }
def fnExactLandTextRow : OpenClaim := { program := "ytcokbhkjfdddkaa", sum := "6a466ee47766bd227c5a4aa42329c6ad827f2fbf593337364ffdb9ca9d0b7429", func := "loop.example/g03008/laws.FnExactLandText", spec := "fnExactLandText", apart := false }
def FnExactLandTextSaid : Prop := fnExactLandTextRow.holds Try.pinned (OpenSpec.ofChange fnExactLandTextSpec)

/-- ITS FALSE NEIGHBOUR: 'it returns false'. Refute it at one input. -/
def fnExactLandTextWrong : ChangeSpec := { name := "fnExactLandText", fn := fun _ => fun
  | [d] => { results := [.lit (.bool false)], args := [d] }
  | _ => none }
def FnExactLandTextWrongFalsely : Prop := fnExactLandTextRow.holds Try.pinned (OpenSpec.ofChange fnExactLandTextWrong)

/-- 'laws.FnExactReadSign': WHATEVER THE INPUT: true; the input reads as it did. -/
def fnExactReadSignSpec : ChangeSpec := { name := "fnExactReadSign", fn := fun _ => fun
  | [d] => { results := [.lit (.bool true)], args := [d] }
  | _ => none }
def fnExactReadSignRow : OpenClaim := { program := "ytcokbhkjfdddkaa", sum := "6a466ee47766bd227c5a4aa42329c6ad827f2fbf593337364ffdb9ca9d0b7429", func := "loop.example/g03008/laws.FnExactReadSign", spec := "fnExactReadSign", apart := false }
def FnExactReadSignSaid : Prop := fnExactReadSignRow.holds Try.pinned (OpenSpec.ofChange fnExactReadSignSpec)

/-- ITS FALSE NEIGHBOUR: 'it returns false'. Refute it at one input. -/
def fnExactReadSignWrong : ChangeSpec := { name := "fnExactReadSign", fn := fun _ => fun
  | [d] => { results := [.lit (.bool false)], args := [d] }
  | _ => none }
def FnExactReadSignWrongFalsely : Prop := fnExactReadSignRow.holds Try.pinned (OpenSpec.ofChange fnExactReadSignWrong)

/-- 'laws.FnExactCanCarry': WHATEVER THE INPUT: true; the input reads as it did. -/
def fnExactCanCarrySpec : ChangeSpec := { name := "fnExactCanCarry", fn := fun _ => fun
  | [d1, d2] => { results := [.lit (.bool true)], args := [d1, d2] }
  | _ => none }
def fnExactCanCarryRow : OpenClaim := { program := "ytcokbhkjfdddkaa", sum := "6a466ee47766bd227c5a4aa42329c6ad827f2fbf593337364ffdb9ca9d0b7429", func := "loop.example/g03008/laws.FnExactCanCarry", spec := "fnExactCanCarry", apart := false }
def FnExactCanCarrySaid : Prop := fnExactCanCarryRow.holds Try.pinned (OpenSpec.ofChange fnExactCanCarrySpec)

/-- ITS FALSE NEIGHBOUR: 'it returns false'. Refute it at one input. -/
def fnExactCanCarryWrong : ChangeSpec := { name := "fnExactCanCarry", fn := fun _ => fun
  | [d1, d2] => { results := [.lit (.bool false)], args := [d1, d2] }
  | _ => none }
def FnExactCanCarryWrongFalsely : Prop := fnExactCanCarryRow.holds Try.pinned (OpenSpec.ofChange fnExactCanCarryWrong)

/-- 'laws.FnExactGiveBack': WHATEVER THE INPUT: true; the input reads as it did. -/
def fnExactGiveBackSpec : ChangeSpec := { name := "fnExactGiveBack", fn := fun _ => fun
  | [d1, d2, d3] => { results := [.lit (.bool true)], args := [d1, d2, d3] }
  | _ => none }
def fnExactGiveBackRow : OpenClaim := { program := "ytcokbhkjfdddkaa", sum := "6a466ee47766bd227c5a4aa42329c6ad827f2fbf593337364ffdb9ca9d0b7429", func := "loop.example/g03008/laws.FnExactGiveBack", spec := "fnExactGiveBack", apart := false }
def FnExactGiveBackSaid : Prop := fnExactGiveBackRow.holds Try.pinned (OpenSpec.ofChange fnExactGiveBackSpec)

/-- ITS FALSE NEIGHBOUR: 'it returns false'. Refute it at one input. -/
def fnExactGiveBackWrong : ChangeSpec := { name := "fnExactGiveBack", fn := fun _ => fun
  | [d1, d2, d3] => { results := [.lit (.bool false)], args := [d1, d2, d3] }
  | _ => none }
def FnExactGiveBackWrongFalsely : Prop := fnExactGiveBackRow.holds Try.pinned (OpenSpec.ofChange fnExactGiveBackWrong)

/-- 'laws.FnExactLend': WHATEVER THE INPUT: true; the input reads as it did. -/
def fnExactLendSpec : ChangeSpec := { name := "fnExactLend", fn := fun _ => fun
  | [d1, d2, d3] => { results := [.lit (.bool true)], args := [d1, d2, d3] }
  | _ => none }
def fnExactLendRow : OpenClaim := { program := "ytcokbhkjfdddkaa", sum := "6a466ee47766bd227c5a4aa42329c6ad827f2fbf593337364ffdb9ca9d0b7429", func := "loop.example/g03008/laws.FnExactLend", spec := "fnExactLend", apart := false }
def FnExactLendSaid : Prop := fnExactLendRow.holds Try.pinned (OpenSpec.ofChange fnExactLendSpec)

/-- ITS FALSE NEIGHBOUR: 'it returns false'. Refute it at one input. -/
def fnExactLendWrong : ChangeSpec := { name := "fnExactLend", fn := fun _ => fun
  | [d1, d2, d3] => { results := [.lit (.bool false)], args := [d1, d2, d3] }
  | _ => none }
def FnExactLendWrongFalsely : Prop := fnExactLendRow.holds Try.pinned (OpenSpec.ofChange fnExactLendWrong)

/-- 'laws.FnSledges': WHATEVER THE INPUT: true; the input reads as it did. -/
def fnSledgesSpec : ChangeSpec := { name := "fnSledges", fn := fun _ => fun
  | [d] => { results := [.lit (.bool true)], args := [d] }
  | _ => none }
def fnSledgesRow : OpenClaim := { program := "ytcokbhkjfdddkaa", sum := "6a466ee47766bd227c5a4aa42329c6ad827f2fbf593337364ffdb9ca9d0b7429", func := "loop.example/g03008/laws.FnSledges", spec := "fnSledges", apart := false }
def FnSledgesSaid : Prop := fnSledgesRow.holds Try.pinned (OpenSpec.ofChange fnSledgesSpec)

/-- ITS FALSE NEIGHBOUR: 'it returns false'. Refute it at one input. -/
def fnSledgesWrong : ChangeSpec := { name := "fnSledges", fn := fun _ => fun
  | [d] => { results := [.lit (.bool false)], args := [d] }
  | _ => none }
def FnSledgesWrongFalsely : Prop := fnSledgesRow.holds Try.pinned (OpenSpec.ofChange fnSledgesWrong)

/-- 'laws.FnExactLose': WHATEVER THE INPUT: true; the input reads as it did. -/
def fnExactLoseSpec : ChangeSpec := { name := "fnExactLose", fn := fun _ => fun
  | [d1, d2, d3] => { results := [.lit (.bool true)], args := [d1, d2, d3] }
  | _ => none }
def fnExactLoseRow : OpenClaim := { program := "ytcokbhkjfdddkaa", sum := "6a466ee47766bd227c5a4aa42329c6ad827f2fbf593337364ffdb9ca9d0b7429", func := "loop.example/g03008/laws.FnExactLose", spec := "fnExactLose", apart := false }
def FnExactLoseSaid : Prop := fnExactLoseRow.holds Try.pinned (OpenSpec.ofChange fnExactLoseSpec)

/-- ITS FALSE NEIGHBOUR: 'it returns false'. Refute it at one input. -/
def fnExactLoseWrong : ChangeSpec := { name := "fnExactLose", fn := fun _ => fun
  | [d1, d2, d3] => { results := [.lit (.bool false)], args := [d1, d2, d3] }
  | _ => none }
def FnExactLoseWrongFalsely : Prop := fnExactLoseRow.holds Try.pinned (OpenSpec.ofChange fnExactLoseWrong)

/-- 'laws.FnExactBestSplit': WHATEVER THE INPUT: true; the input reads as it did. -/
def fnExactBestSplitSpec : ChangeSpec := { name := "fnExactBestSplit", fn := fun _ => fun
  | [d] => { results := [.lit (.bool true)], args := [d] }
  | _ => none }
def fnExactBestSplitRow : OpenClaim := { program := "ytcokbhkjfdddkaa", sum := "6a466ee47766bd227c5a4aa42329c6ad827f2fbf593337364ffdb9ca9d0b7429", func := "loop.example/g03008/laws.FnExactBestSplit", spec := "fnExactBestSplit", apart := false }
def FnExactBestSplitSaid : Prop := fnExactBestSplitRow.holds Try.pinned (OpenSpec.ofChange fnExactBestSplitSpec)

/-- ITS FALSE NEIGHBOUR: 'it returns false'. Refute it at one input. -/
def fnExactBestSplitWrong : ChangeSpec := { name := "fnExactBestSplit", fn := fun _ => fun
  | [d] => { results := [.lit (.bool false)], args := [d] }
  | _ => none }
def FnExactBestSplitWrongFalsely : Prop := fnExactBestSplitRow.holds Try.pinned (OpenSpec.ofChange fnExactBestSplitWrong)

/-- 'laws.FnStores': WHATEVER THE INPUT: true; the input reads as it did. -/
def fnStoresSpec : ChangeSpec := { name := "fnStores", fn := fun _ => fun
  | [d] => { results := [.lit (.bool true)], args := [d] }
  | _ => none }
def fnStoresRow : OpenClaim := { program := "ytcokbhkjfdddkaa", sum := "6a466ee47766bd227c5a4aa42329c6ad827f2fbf593337364ffdb9ca9d0b7429", func := "loop.example/g03008/laws.FnStores", spec := "fnStores", apart := false }
def FnStoresSaid : Prop := fnStoresRow.holds Try.pinned (OpenSpec.ofChange fnStoresSpec)

/-- ITS FALSE NEIGHBOUR: 'it returns false'. Refute it at one input. -/
def fnStoresWrong : ChangeSpec := { name := "fnStores", fn := fun _ => fun
  | [d] => { results := [.lit (.bool false)], args := [d] }
  | _ => none }
def FnStoresWrongFalsely : Prop := fnStoresRow.holds Try.pinned (OpenSpec.ofChange fnStoresWrong)

/-- 'laws.FnExactShareFood': WHATEVER THE INPUT: true; the input reads as it did. -/
def fnExactShareFoodSpec : ChangeSpec := { name := "fnExactShareFood", fn := fun _ => fun
  | [d1, d2] => { results := [.lit (.bool true)], args := [d1, d2] }
  | _ => none }
def fnExactShareFoodRow : OpenClaim := { program := "ytcokbhkjfdddkaa", sum := "6a466ee47766bd227c5a4aa42329c6ad827f2fbf593337364ffdb9ca9d0b7429", func := "loop.example/g03008/laws.FnExactShareFood", spec := "fnExactShareFood", apart := false }
def FnExactShareFoodSaid : Prop := fnExactShareFoodRow.holds Try.pinned (OpenSpec.ofChange fnExactShareFoodSpec)

/-- ITS FALSE NEIGHBOUR: 'it returns false'. Refute it at one input. -/
def fnExactShareFoodWrong : ChangeSpec := { name := "fnExactShareFood", fn := fun _ => fun
  | [d1, d2] => { results := [.lit (.bool false)], args := [d1, d2] }
  | _ => none }
def FnExactShareFoodWrongFalsely : Prop := fnExactShareFoodRow.holds Try.pinned (OpenSpec.ofChange fnExactShareFoodWrong)

/-- 'laws.FnSigns': WHATEVER THE INPUT: true; the input reads as it did. -/
def fnSignsSpec : ChangeSpec := { name := "fnSigns", fn := fun _ => fun
  | [d] => { results := [.lit (.bool true)], args := [d] }
  | _ => none }
def fnSignsRow : OpenClaim := { program := "ytcokbhkjfdddkaa", sum := "6a466ee47766bd227c5a4aa42329c6ad827f2fbf593337364ffdb9ca9d0b7429", func := "loop.example/g03008/laws.FnSigns", spec := "fnSigns", apart := false }
def FnSignsSaid : Prop := fnSignsRow.holds Try.pinned (OpenSpec.ofChange fnSignsSpec)

/-- ITS FALSE NEIGHBOUR: 'it returns false'. Refute it at one input. -/
def fnSignsWrong : ChangeSpec := { name := "fnSigns", fn := fun _ => fun
  | [d] => { results := [.lit (.bool false)], args := [d] }
  | _ => none }
def FnSignsWrongFalsely : Prop := fnSignsRow.holds Try.pinned (OpenSpec.ofChange fnSignsWrong)

/-- 'laws.FnExactShareLoad': WHATEVER THE INPUT: true; the input reads as it did. -/
def fnExactShareLoadSpec : ChangeSpec := { name := "fnExactShareLoad", fn := fun _ => fun
  | [d1, d2] => { results := [.lit (.bool true)], args := [d1, d2] }
  | _ => none }
def fnExactShareLoadRow : OpenClaim := { program := "ytcokbhkjfdddkaa", sum := "6a466ee47766bd227c5a4aa42329c6ad827f2fbf593337364ffdb9ca9d0b7429", func := "loop.example/g03008/laws.FnExactShareLoad", spec := "fnExactShareLoad", apart := false }
def FnExactShareLoadSaid : Prop := fnExactShareLoadRow.holds Try.pinned (OpenSpec.ofChange fnExactShareLoadSpec)

/-- ITS FALSE NEIGHBOUR: 'it returns false'. Refute it at one input. -/
def fnExactShareLoadWrong : ChangeSpec := { name := "fnExactShareLoad", fn := fun _ => fun
  | [d1, d2] => { results := [.lit (.bool false)], args := [d1, d2] }
  | _ => none }
def FnExactShareLoadWrongFalsely : Prop := fnExactShareLoadRow.holds Try.pinned (OpenSpec.ofChange fnExactShareLoadWrong)

/-- 'laws.FnShares': WHATEVER THE INPUT: true; the input reads as it did. -/
def fnSharesSpec : ChangeSpec := { name := "fnShares", fn := fun _ => fun
  | [d] => { results := [.lit (.bool true)], args := [d] }
  | _ => none }
def fnSharesRow : OpenClaim := { program := "ytcokbhkjfdddkaa", sum := "6a466ee47766bd227c5a4aa42329c6ad827f2fbf593337364ffdb9ca9d0b7429", func := "loop.example/g03008/laws.FnShares", spec := "fnShares", apart := false }
def FnSharesSaid : Prop := fnSharesRow.holds Try.pinned (OpenSpec.ofChange fnSharesSpec)

/-- ITS FALSE NEIGHBOUR: 'it returns false'. Refute it at one input. -/
def fnSharesWrong : ChangeSpec := { name := "fnShares", fn := fun _ => fun
  | [d] => { results := [.lit (.bool false)], args := [d] }
  | _ => none }
def FnSharesWrongFalsely : Prop := fnSharesRow.holds Try.pinned (OpenSpec.ofChange fnSharesWrong)

/-- 'laws.FnExactEat': WHATEVER THE INPUT: true; the input reads as it did. -/
def fnExactEatSpec : ChangeSpec := { name := "fnExactEat", fn := fun _ => fun
  | [d] => { results := [.lit (.bool true)], args := [d] }
  | _ => none }
def fnExactEatRow : OpenClaim := { program := "ytcokbhkjfdddkaa", sum := "6a466ee47766bd227c5a4aa42329c6ad827f2fbf593337364ffdb9ca9d0b7429", func := "loop.example/g03008/laws.FnExactEat", spec := "fnExactEat", apart := false }
def FnExactEatSaid : Prop := fnExactEatRow.holds Try.pinned (OpenSpec.ofChange fnExactEatSpec)

/-- ITS FALSE NEIGHBOUR: 'it returns false'. Refute it at one input. -/
def fnExactEatWrong : ChangeSpec := { name := "fnExactEat", fn := fun _ => fun
  | [d] => { results := [.lit (.bool false)], args := [d] }
  | _ => none }
def FnExactEatWrongFalsely : Prop := fnExactEatRow.holds Try.pinned (OpenSpec.ofChange fnExactEatWrong)

/-- 'laws.FnExactPickUp': WHATEVER THE INPUT: true; the input reads as it did. -/
def fnExactPickUpSpec : ChangeSpec := { name := "fnExactPickUp", fn := fun _ => fun
  | [d1, d2] => { results := [.lit (.bool true)], args := [d1, d2] }
  | _ => none }
def fnExactPickUpRow : OpenClaim := { program := "ytcokbhkjfdddkaa", sum := "6a466ee47766bd227c5a4aa42329c6ad827f2fbf593337364ffdb9ca9d0b7429", func := "loop.example/g03008/laws.FnExactPickUp", spec := "fnExactPickUp", apart := false }
def FnExactPickUpSaid : Prop := fnExactPickUpRow.holds Try.pinned (OpenSpec.ofChange fnExactPickUpSpec)

/-- ITS FALSE NEIGHBOUR: 'it returns false'. Refute it at one input. -/
def fnExactPickUpWrong : ChangeSpec := { name := "fnExactPickUp", fn := fun _ => fun
  | [d1, d2] => { results := [.lit (.bool false)], args := [d1, d2] }
  | _ => none }
def FnExactPickUpWrongFalsely : Prop := fnExactPickUpRow.holds Try.pinned (OpenSpec.ofChange fnExactPickUpWrong)

/-- 'laws.FnParties': WHATEVER THE INPUT: true; the input reads as it did. -/
def fnPartiesSpec : ChangeSpec := { name := "fnParties", fn := fun _ => fun
  | [d] => { results := [.lit (.bool true)], args := [d] }
  | _ => none }
def fnPartiesRow : OpenClaim := { program := "ytcokbhkjfdddkaa", sum := "6a466ee47766bd227c5a4aa42329c6ad827f2fbf593337364ffdb9ca9d0b7429", func := "loop.example/g03008/laws.FnParties", spec := "fnParties", apart := false }
def FnPartiesSaid : Prop := fnPartiesRow.holds Try.pinned (OpenSpec.ofChange fnPartiesSpec)

/-- ITS FALSE NEIGHBOUR: 'it returns false'. Refute it at one input. -/
def fnPartiesWrong : ChangeSpec := { name := "fnParties", fn := fun _ => fun
  | [d] => { results := [.lit (.bool false)], args := [d] }
  | _ => none }
def FnPartiesWrongFalsely : Prop := fnPartiesRow.holds Try.pinned (OpenSpec.ofChange fnPartiesWrong)

/- THE SECOND FORM. 'bulk': how many values and letters a reading holds, each counted each time it is reached (what is shared counts as often as it is met; a slice's spare places count too). A statement '..UptoSaid' is the law's where the arguments, and the package variables that the reading takes, are together of bulk at most 1048576: NARROWER than '..Said'. Prove '..Said' where nothing that the law and all that it calls make is longer than what came in: it says more and counts as full. Else prove '..UptoSaid'. A law counts once. -/
mutual
def uptoBulk {H : Type} : DataW H → Nat
  | .lit (.string bytes) => bytes.length + 1
  | .lit _ => 1
  | .nil => 1
  | .ptr d => uptoBulk d + 1
  | .slice elems spare => uptoBulkAll elems + uptoBulkAll spare + 1
  | .agg parts => uptoBulkAll parts + 1
  | .iface _ d => uptoBulk d + 1
  | .map entries => uptoBulkEntries entries + 1
  | .held _ => 1
def uptoBulkAll {H : Type} : List (DataW H) → Nat
  | [] => 0
  | d :: r => uptoBulk d + uptoBulkAll r
def uptoBulkEntries {H : Type} : List (Lit × DataW H) → Nat
  | [] => 0
  | x :: r => uptoBulkEntry x + uptoBulkEntries r
def uptoBulkEntry {H : Type} : Lit × DataW H → Nat
  | (.string bytes, d) => bytes.length + uptoBulk d + 1
  | (_, d) => uptoBulk d + 1
 end
def uptoSmall : (H : Type) → List (DataW H) → Bool := fun _ ds => decide (uptoBulkAll ds ≤ 1048576)
def OpenSpec.upto (s : _root_.Go.ChangeSpec) : _root_.Go.OpenSpec := { _root_.Go.OpenSpec.ofChange s with cond := some uptoSmall }

/-- 'laws.FnExactCanReach', WHERE WHAT IT READS IS OF BULK AT MOST 1048576: true; the input reads as it did. -/
def fnExactCanReachUptoRow : OpenClaim := { program := "ytcokbhkjfdddkaa", sum := "6a466ee47766bd227c5a4aa42329c6ad827f2fbf593337364ffdb9ca9d0b7429", func := "loop.example/g03008/laws.FnExactCanReach", spec := "fnExactCanReach", apart := false, narrowed := true }
def FnExactCanReachUptoSaid : Prop := fnExactCanReachUptoRow.holds Try.pinned (OpenSpec.upto fnExactCanReachSpec)

/-- 'laws.FnExactSplitGap', WHERE WHAT IT READS IS OF BULK AT MOST 1048576: true; the input reads as it did. -/
def fnExactSplitGapUptoRow : OpenClaim := { program := "ytcokbhkjfdddkaa", sum := "6a466ee47766bd227c5a4aa42329c6ad827f2fbf593337364ffdb9ca9d0b7429", func := "loop.example/g03008/laws.FnExactSplitGap", spec := "fnExactSplitGap", apart := false, narrowed := true }
def FnExactSplitGapUptoSaid : Prop := fnExactSplitGapUptoRow.holds Try.pinned (OpenSpec.upto fnExactSplitGapSpec)

/-- 'laws.FnExactSignOf', WHERE WHAT IT READS IS OF BULK AT MOST 1048576: true; the input reads as it did. -/
def fnExactSignOfUptoRow : OpenClaim := { program := "ytcokbhkjfdddkaa", sum := "6a466ee47766bd227c5a4aa42329c6ad827f2fbf593337364ffdb9ca9d0b7429", func := "loop.example/g03008/laws.FnExactSignOf", spec := "fnExactSignOf", apart := false, narrowed := true }
def FnExactSignOfUptoSaid : Prop := fnExactSignOfUptoRow.holds Try.pinned (OpenSpec.upto fnExactSignOfSpec)

/-- 'laws.FnExactAllOut', WHERE WHAT IT READS IS OF BULK AT MOST 1048576: true; the input reads as it did. -/
def fnExactAllOutUptoRow : OpenClaim := { program := "ytcokbhkjfdddkaa", sum := "6a466ee47766bd227c5a4aa42329c6ad827f2fbf593337364ffdb9ca9d0b7429", func := "loop.example/g03008/laws.FnExactAllOut", spec := "fnExactAllOut", apart := false, narrowed := true }
def FnExactAllOutUptoSaid : Prop := fnExactAllOutUptoRow.holds Try.pinned (OpenSpec.upto fnExactAllOutSpec)

/-- 'laws.FnExactIsFair', WHERE WHAT IT READS IS OF BULK AT MOST 1048576: true; the input reads as it did. -/
def fnExactIsFairUptoRow : OpenClaim := { program := "ytcokbhkjfdddkaa", sum := "6a466ee47766bd227c5a4aa42329c6ad827f2fbf593337364ffdb9ca9d0b7429", func := "loop.example/g03008/laws.FnExactIsFair", spec := "fnExactIsFair", apart := false, narrowed := true }
def FnExactIsFairUptoSaid : Prop := fnExactIsFairUptoRow.holds Try.pinned (OpenSpec.upto fnExactIsFairSpec)

/-- 'laws.FnExactHasIn', WHERE WHAT IT READS IS OF BULK AT MOST 1048576: true; the input reads as it did. -/
def fnExactHasInUptoRow : OpenClaim := { program := "ytcokbhkjfdddkaa", sum := "6a466ee47766bd227c5a4aa42329c6ad827f2fbf593337364ffdb9ca9d0b7429", func := "loop.example/g03008/laws.FnExactHasIn", spec := "fnExactHasIn", apart := false, narrowed := true }
def FnExactHasInUptoSaid : Prop := fnExactHasInUptoRow.holds Try.pinned (OpenSpec.upto fnExactHasInSpec)

/-- 'laws.FnExactLandText', WHERE WHAT IT READS IS OF BULK AT MOST 1048576: true; the input reads as it did. -/
def fnExactLandTextUptoRow : OpenClaim := { program := "ytcokbhkjfdddkaa", sum := "6a466ee47766bd227c5a4aa42329c6ad827f2fbf593337364ffdb9ca9d0b7429", func := "loop.example/g03008/laws.FnExactLandText", spec := "fnExactLandText", apart := false, narrowed := true }
def FnExactLandTextUptoSaid : Prop := fnExactLandTextUptoRow.holds Try.pinned (OpenSpec.upto fnExactLandTextSpec)

/-- 'laws.FnExactReadSign', WHERE WHAT IT READS IS OF BULK AT MOST 1048576: true; the input reads as it did. -/
def fnExactReadSignUptoRow : OpenClaim := { program := "ytcokbhkjfdddkaa", sum := "6a466ee47766bd227c5a4aa42329c6ad827f2fbf593337364ffdb9ca9d0b7429", func := "loop.example/g03008/laws.FnExactReadSign", spec := "fnExactReadSign", apart := false, narrowed := true }
def FnExactReadSignUptoSaid : Prop := fnExactReadSignUptoRow.holds Try.pinned (OpenSpec.upto fnExactReadSignSpec)

/-- 'laws.FnExactCanCarry', WHERE WHAT IT READS IS OF BULK AT MOST 1048576: true; the input reads as it did. -/
def fnExactCanCarryUptoRow : OpenClaim := { program := "ytcokbhkjfdddkaa", sum := "6a466ee47766bd227c5a4aa42329c6ad827f2fbf593337364ffdb9ca9d0b7429", func := "loop.example/g03008/laws.FnExactCanCarry", spec := "fnExactCanCarry", apart := false, narrowed := true }
def FnExactCanCarryUptoSaid : Prop := fnExactCanCarryUptoRow.holds Try.pinned (OpenSpec.upto fnExactCanCarrySpec)

/-- 'laws.FnExactGiveBack', WHERE WHAT IT READS IS OF BULK AT MOST 1048576: true; the input reads as it did. -/
def fnExactGiveBackUptoRow : OpenClaim := { program := "ytcokbhkjfdddkaa", sum := "6a466ee47766bd227c5a4aa42329c6ad827f2fbf593337364ffdb9ca9d0b7429", func := "loop.example/g03008/laws.FnExactGiveBack", spec := "fnExactGiveBack", apart := false, narrowed := true }
def FnExactGiveBackUptoSaid : Prop := fnExactGiveBackUptoRow.holds Try.pinned (OpenSpec.upto fnExactGiveBackSpec)

/-- 'laws.FnExactLend', WHERE WHAT IT READS IS OF BULK AT MOST 1048576: true; the input reads as it did. -/
def fnExactLendUptoRow : OpenClaim := { program := "ytcokbhkjfdddkaa", sum := "6a466ee47766bd227c5a4aa42329c6ad827f2fbf593337364ffdb9ca9d0b7429", func := "loop.example/g03008/laws.FnExactLend", spec := "fnExactLend", apart := false, narrowed := true }
def FnExactLendUptoSaid : Prop := fnExactLendUptoRow.holds Try.pinned (OpenSpec.upto fnExactLendSpec)

/-- 'laws.FnSledges', WHERE WHAT IT READS IS OF BULK AT MOST 1048576: true; the input reads as it did. -/
def fnSledgesUptoRow : OpenClaim := { program := "ytcokbhkjfdddkaa", sum := "6a466ee47766bd227c5a4aa42329c6ad827f2fbf593337364ffdb9ca9d0b7429", func := "loop.example/g03008/laws.FnSledges", spec := "fnSledges", apart := false, narrowed := true }
def FnSledgesUptoSaid : Prop := fnSledgesUptoRow.holds Try.pinned (OpenSpec.upto fnSledgesSpec)

/-- 'laws.FnExactLose', WHERE WHAT IT READS IS OF BULK AT MOST 1048576: true; the input reads as it did. -/
def fnExactLoseUptoRow : OpenClaim := { program := "ytcokbhkjfdddkaa", sum := "6a466ee47766bd227c5a4aa42329c6ad827f2fbf593337364ffdb9ca9d0b7429", func := "loop.example/g03008/laws.FnExactLose", spec := "fnExactLose", apart := false, narrowed := true }
def FnExactLoseUptoSaid : Prop := fnExactLoseUptoRow.holds Try.pinned (OpenSpec.upto fnExactLoseSpec)

/-- 'laws.FnExactBestSplit', WHERE WHAT IT READS IS OF BULK AT MOST 1048576: true; the input reads as it did. -/
def fnExactBestSplitUptoRow : OpenClaim := { program := "ytcokbhkjfdddkaa", sum := "6a466ee47766bd227c5a4aa42329c6ad827f2fbf593337364ffdb9ca9d0b7429", func := "loop.example/g03008/laws.FnExactBestSplit", spec := "fnExactBestSplit", apart := false, narrowed := true }
def FnExactBestSplitUptoSaid : Prop := fnExactBestSplitUptoRow.holds Try.pinned (OpenSpec.upto fnExactBestSplitSpec)

/-- 'laws.FnStores', WHERE WHAT IT READS IS OF BULK AT MOST 1048576: true; the input reads as it did. -/
def fnStoresUptoRow : OpenClaim := { program := "ytcokbhkjfdddkaa", sum := "6a466ee47766bd227c5a4aa42329c6ad827f2fbf593337364ffdb9ca9d0b7429", func := "loop.example/g03008/laws.FnStores", spec := "fnStores", apart := false, narrowed := true }
def FnStoresUptoSaid : Prop := fnStoresUptoRow.holds Try.pinned (OpenSpec.upto fnStoresSpec)

/-- 'laws.FnExactShareFood', WHERE WHAT IT READS IS OF BULK AT MOST 1048576: true; the input reads as it did. -/
def fnExactShareFoodUptoRow : OpenClaim := { program := "ytcokbhkjfdddkaa", sum := "6a466ee47766bd227c5a4aa42329c6ad827f2fbf593337364ffdb9ca9d0b7429", func := "loop.example/g03008/laws.FnExactShareFood", spec := "fnExactShareFood", apart := false, narrowed := true }
def FnExactShareFoodUptoSaid : Prop := fnExactShareFoodUptoRow.holds Try.pinned (OpenSpec.upto fnExactShareFoodSpec)

/-- 'laws.FnSigns', WHERE WHAT IT READS IS OF BULK AT MOST 1048576: true; the input reads as it did. -/
def fnSignsUptoRow : OpenClaim := { program := "ytcokbhkjfdddkaa", sum := "6a466ee47766bd227c5a4aa42329c6ad827f2fbf593337364ffdb9ca9d0b7429", func := "loop.example/g03008/laws.FnSigns", spec := "fnSigns", apart := false, narrowed := true }
def FnSignsUptoSaid : Prop := fnSignsUptoRow.holds Try.pinned (OpenSpec.upto fnSignsSpec)

/-- 'laws.FnExactShareLoad', WHERE WHAT IT READS IS OF BULK AT MOST 1048576: true; the input reads as it did. -/
def fnExactShareLoadUptoRow : OpenClaim := { program := "ytcokbhkjfdddkaa", sum := "6a466ee47766bd227c5a4aa42329c6ad827f2fbf593337364ffdb9ca9d0b7429", func := "loop.example/g03008/laws.FnExactShareLoad", spec := "fnExactShareLoad", apart := false, narrowed := true }
def FnExactShareLoadUptoSaid : Prop := fnExactShareLoadUptoRow.holds Try.pinned (OpenSpec.upto fnExactShareLoadSpec)

/-- 'laws.FnShares', WHERE WHAT IT READS IS OF BULK AT MOST 1048576: true; the input reads as it did. -/
def fnSharesUptoRow : OpenClaim := { program := "ytcokbhkjfdddkaa", sum := "6a466ee47766bd227c5a4aa42329c6ad827f2fbf593337364ffdb9ca9d0b7429", func := "loop.example/g03008/laws.FnShares", spec := "fnShares", apart := false, narrowed := true }
def FnSharesUptoSaid : Prop := fnSharesUptoRow.holds Try.pinned (OpenSpec.upto fnSharesSpec)

/-- 'laws.FnExactEat', WHERE WHAT IT READS IS OF BULK AT MOST 1048576: true; the input reads as it did. -/
def fnExactEatUptoRow : OpenClaim := { program := "ytcokbhkjfdddkaa", sum := "6a466ee47766bd227c5a4aa42329c6ad827f2fbf593337364ffdb9ca9d0b7429", func := "loop.example/g03008/laws.FnExactEat", spec := "fnExactEat", apart := false, narrowed := true }
def FnExactEatUptoSaid : Prop := fnExactEatUptoRow.holds Try.pinned (OpenSpec.upto fnExactEatSpec)

/-- 'laws.FnExactPickUp', WHERE WHAT IT READS IS OF BULK AT MOST 1048576: true; the input reads as it did. -/
def fnExactPickUpUptoRow : OpenClaim := { program := "ytcokbhkjfdddkaa", sum := "6a466ee47766bd227c5a4aa42329c6ad827f2fbf593337364ffdb9ca9d0b7429", func := "loop.example/g03008/laws.FnExactPickUp", spec := "fnExactPickUp", apart := false, narrowed := true }
def FnExactPickUpUptoSaid : Prop := fnExactPickUpUptoRow.holds Try.pinned (OpenSpec.upto fnExactPickUpSpec)

/-- 'laws.FnParties', WHERE WHAT IT READS IS OF BULK AT MOST 1048576: true; the input reads as it did. -/
def fnPartiesUptoRow : OpenClaim := { program := "ytcokbhkjfdddkaa", sum := "6a466ee47766bd227c5a4aa42329c6ad827f2fbf593337364ffdb9ca9d0b7429", func := "loop.example/g03008/laws.FnParties", spec := "fnParties", apart := false, narrowed := true }
def FnPartiesUptoSaid : Prop := fnPartiesUptoRow.holds Try.pinned (OpenSpec.upto fnPartiesSpec)

end Rows
end Go.Proofs.Ytcokbhkjfdddkaa
