/- The head line of the seat's translation, as its signs, and what the claim's form asks of it. -/
import Derived.Test.YtegbddilobpeaaaRows
import Derived.WalkKit
import Derived.JoinedOf
namespace Go.Proofs.Ytegbddilobpeaaa.Head
open Go Go.RowKit Go.Proofs.Ytegbddilobpeaaa
def signs : List Char := ([104,97,114,110,101,115,115,32,102,53,54,100,100,98,51,53,54,99,50,100,56,55,54,55,57,49,100,57,54,49,100,57,99,97,100,101,49,101,51,100,101,49,102,50,51,102,101,53,51,49,98,57,54,48,48,99,52,97,52,55,101,48,97,53,97,53,51,48,51,99,97,55,32,99,117,116,32,97,116,32,108,111,111,112,46,101,120,97,109,112,108,101,47,103,48,51,48,48,56,47,108,97,119,115,46,70,110,69,120,97,99,116,72,101,97,118,105,101,115,116,70,105,114,115,116,32,108,111,111,112,46,101,120,97,109,112,108,101,47,103,48,51,48,48,56,47,108,97,119,115,46,70,110,69,120,97,99,116,67,97,110,82,101,97,99,104,32,108,111,111,112,46,101,120,97,109,112,108,101,47,103,48,51,48,48,56,47,108,97,119,115,46,70,110,83,108,101,100,103,101,115,32,108,111,111,112,46,101,120,97,109,112,108,101,47,103,48,51,48,48,56,47,108,97,119,115,46,70,110,83,116,111,114,101,115,32,108,111,111,112,46,101,120,97,109,112,108,101,47,103,48,51,48,48,56,47,108,97,119,115,46,70,110,83,105,103,110,115,32,108,111,111,112,46,101,120,97,109,112,108,101,47,103,48,51,48,48,56,47,108,97,119,115,46,70,110,83,104,97,114,101,115,32,108,111,111,112,46,101,120,97,109,112,108,101,47,103,48,51,48,48,56,47,108,97,119,115,46,70,110,69,120,97,99,116,80,105,99,107,85,112,32,108,111,111,112,46,101,120,97,109,112,108,101,47,103,48,51,48,48,56,47,108,97,119,115,46,70,110,80,97,114,116,105,101,115,32,108,111,111,112,46,101,120,97,109,112,108,101,47,103,48,51,48,48,56,47,108,97,119,115,46,70,110,69,120,97,99,116,65,116,66,97,115,101,32,108,111,111,112,46,101,120,97,109,112,108,101,47,103,48,51,48,48,56,47,108,97,119,115,46,70,110,69,120,97,99,116,69,113,117,97,108,84,114,101,107,115] : List Nat).map Char.ofNat
set_option maxRecDepth 100000 in
theorem line : Try.prog.initOrder.toList = signs := by
  have h : Try.prog.initOrder = String.ofList signs := by kernel_rfl
  rw [h]; exact String.toList_ofList
theorem words : ∃ R, behindMainWord (wordsSigns Try.prog.initOrder.toList) = [.ofNat 99, .ofNat 117, .ofNat 116] :: R := by
  rw [line]; exact ⟨(behindMainWord (wordsSigns signs)).tail, by kernel_rfl⟩
theorem laysLater : Try.prog.laysLater = false := by kernel_rfl
theorem bearsReflect : Try.prog.bearsReflect = false := by kernel_rfl
theorem doorFits : Try.prog.doorFits [] = true := by kernel_rfl
theorem strip (R : List (List Char)) : stripLifts liftWords ([.ofNat 99, .ofNat 117, .ofNat 116] :: R) = ([], [.ofNat 99, .ofNat 117, .ofNat 116] :: R) := by kernel_rfl
theorem mayEnter_of {P : Program} {R} (h : behindMainWord (wordsSigns P.initOrder.toList) = [.ofNat 99, .ofNat 117, .ofNat 116] :: R) (l : P.laysLater = false) (b : P.bearsReflect = false) (d : P.doorFits [] = true) : P.mayEnter = true := by
  unfold Program.mayEnter; rw [h]; simp only [strip, l, b, d]; rfl
theorem liftsFinal_of {P : Program} {R} (h : behindMainWord (wordsSigns P.initOrder.toList) = [.ofNat 99, .ofNat 117, .ofNat 116] :: R) : P.liftsFinal = false := by
  unfold Program.liftsFinal Program.headLifts; rw [h]; simp only [strip]; rfl
theorem make_of {P : Program} {R} (h : behindMainWord (wordsSigns P.initOrder.toList) = [.ofNat 99, .ofNat 117, .ofNat 116] :: R) : P.make = some .cut := by
  unfold Program.make; rw [h]; rfl
theorem mayEnter : Try.prog.mayEnter = true := by
  obtain ⟨R, h⟩ := words
  exact mayEnter_of h laysLater bearsReflect doorFits
theorem liftsFinal : Try.prog.liftsFinal = false := by
  obtain ⟨R, h⟩ := words
  exact liftsFinal_of h
theorem make : Try.prog.make = some .cut := by
  obtain ⟨R, h⟩ := words
  exact make_of h
end Go.Proofs.Ytegbddilobpeaaa.Head
