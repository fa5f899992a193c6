/- The head line of the seat's translation, as its signs, and what the claim's form asks of it. -/
import Derived.Test.YtjbbmeldcoghbaaDoorRows
import Derived.WalkKit
import Derived.JoinedOf
namespace Go.Proofs.YtjbbmeldcoghbaaDoor.Head
open Go Go.RowKit Go.Proofs.YtjbbmeldcoghbaaDoor
def signs : List Char := ([104,97,114,110,101,115,115,32,49,102,53,57,48,97,54,99,55,49,98,55,55,51,52,102,102,53,101,99,97,101,99,53,52,101,57,49,54,97,52,53,50,102,54,57,98,48,98,51,54,101,50,99,51,54,52,54,99,56,50,50,53,51,99,50,99,97,53,52,98,98,53,98,32,99,117,116,32,97,116,32,108,111,111,112,46,101,120,97,109,112,108,101,47,103,48,51,48,48,56,47,108,97,119,115,46,70,110,84,101,120,116,115] : List Nat).map Char.ofNat
set_option maxRecDepth 100000 in
theorem line : Tryd.prog.initOrder.toList = signs := by
  have h : Tryd.prog.initOrder = String.ofList signs := by kernel_rfl
  rw [h]; exact String.toList_ofList
theorem words : ∃ R, behindMainWord (wordsSigns Tryd.prog.initOrder.toList) = [.ofNat 99, .ofNat 117, .ofNat 116] :: R := by
  rw [line]; exact ⟨(behindMainWord (wordsSigns signs)).tail, by kernel_rfl⟩
theorem laysLater : Tryd.prog.laysLater = false := by kernel_rfl
theorem bearsReflect : Tryd.prog.bearsReflect = false := by kernel_rfl
theorem doorFits : Tryd.prog.doorFits [] = true := by kernel_rfl
theorem strip (R : List (List Char)) : stripLifts liftWords ([.ofNat 99, .ofNat 117, .ofNat 116] :: R) = ([], [.ofNat 99, .ofNat 117, .ofNat 116] :: R) := by kernel_rfl
theorem mayEnter_of {P : Program} {R} (h : behindMainWord (wordsSigns P.initOrder.toList) = [.ofNat 99, .ofNat 117, .ofNat 116] :: R) (l : P.laysLater = false) (b : P.bearsReflect = false) (d : P.doorFits [] = true) : P.mayEnter = true := by
  unfold Program.mayEnter; rw [h]; simp only [strip, l, b, d]; rfl
theorem liftsFinal_of {P : Program} {R} (h : behindMainWord (wordsSigns P.initOrder.toList) = [.ofNat 99, .ofNat 117, .ofNat 116] :: R) : P.liftsFinal = false := by
  unfold Program.liftsFinal Program.headLifts; rw [h]; simp only [strip]; rfl
theorem make_of {P : Program} {R} (h : behindMainWord (wordsSigns P.initOrder.toList) = [.ofNat 99, .ofNat 117, .ofNat 116] :: R) : P.make = some .cut := by
  unfold Program.make; rw [h]; rfl
theorem mayEnter : Tryd.prog.mayEnter = true := by
  obtain ⟨R, h⟩ := words
  exact mayEnter_of h laysLater bearsReflect doorFits
theorem liftsFinal : Tryd.prog.liftsFinal = false := by
  obtain ⟨R, h⟩ := words
  exact liftsFinal_of h
theorem make : Tryd.prog.make = some .cut := by
  obtain ⟨R, h⟩ := words
  exact make_of h
end Go.Proofs.YtjbbmeldcoghbaaDoor.Head
