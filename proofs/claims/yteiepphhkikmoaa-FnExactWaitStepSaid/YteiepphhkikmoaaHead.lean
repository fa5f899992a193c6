/- The head line of the seat's translation, as its signs, and what the claim's form asks of it. -/
import Derived.Test.YteiepphhkikmoaaRows
import Derived.WalkKit
import Derived.JoinedOf
namespace Go.Proofs.Yteiepphhkikmoaa.Head
open Go Go.RowKit Go.Proofs.Yteiepphhkikmoaa
def signs : List Char := ([104,97,114,110,101,115,115,32,51,53,102,55,52,100,101,99,50,102,54,101,55,98,102,49,50,97,52,100,102,99,56,57,99,97,99,52,101,56,55,49,48,51,50,98,51,102,99,56,101,99,102,52,48,49,51,102,98,48,52,55,53,49,56,102,102,54,49,50,50,101,98,100,32,99,117,116,32,97,116,32,108,111,111,112,46,101,120,97,109,112,108,101,47,103,48,51,48,48,56,47,108,97,119,115,46,70,110,69,120,97,99,116,67,97,110,82,101,116,117,114,110,78,111,119,32,108,111,111,112,46,101,120,97,109,112,108,101,47,103,48,51,48,48,56,47,108,97,119,115,46,70,110,69,120,97,99,116,67,104,111,105,99,101,115,79,102,32,108,111,111,112,46,101,120,97,109,112,108,101,47,103,48,51,48,48,56,47,108,97,119,115,46,70,110,69,120,97,99,116,87,97,105,116,83,116,101,112,32,108,111,111,112,46,101,120,97,109,112,108,101,47,103,48,51,48,48,56,47,108,97,119,115,46,70,110,69,120,97,99,116,83,116,101,112,115,79,110,32,108,111,111,112,46,101,120,97,109,112,108,101,47,103,48,51,48,48,56,47,108,97,119,115,46,70,110,69,120,97,99,116,76,97,116,101,115,116,67,97,108,109,32,108,111,111,112,46,101,120,97,109,112,108,101,47,103,48,51,48,48,56,47,108,97,119,115,46,70,110,69,120,97,99,116,76,97,116,101,115,116,84,117,114,110,32,108,111,111,112,46,101,120,97,109,112,108,101,47,103,48,51,48,48,56,47,108,97,119,115,46,70,110,69,120,97,99,116,73,115,83,97,102,101,87,97,121,32,108,111,111,112,46,101,120,97,109,112,108,101,47,103,48,51,48,48,56,47,108,97,119,115,46,70,110,69,120,97,99,116,77,117,115,116,84,117,114,110,32,108,111,111,112,46,101,120,97,109,112,108,101,47,103,48,51,48,48,56,47,108,97,119,115,46,70,110,69,120,97,99,116,77,97,121,76,97,121,32,108,111,111,112,46,101,120,97,109,112,108,101,47,103,48,51,48,48,56,47,108,97,119,115,46,70,110,69,120,97,99,116,77,111,115,116,84,111,76,97,121] : List Nat).map Char.ofNat
set_option maxRecDepth 100000 in
theorem line : Try.prog.initOrder.toList = signs := by
  have h : Try.prog.initOrder = String.ofList signs := by kernel_rfl
  rw [h]; exact String.toList_ofList
theorem words : ∃ R, behindMainWord (wordsSigns Try.prog.initOrder.toList) = [.ofNat 99, .ofNat 117, .ofNat 116] :: R := by
  rw [line]; exact ⟨(behindMainWord (wordsSigns signs)).tail, by kernel_rfl⟩
theorem laysLater : Try.prog.laysLater = false := by kernel_rfl
theorem bearsReflect : Try.prog.bearsReflect = false := by kernel_rfl
theorem doorFits : Try.prog.doorFits [] = true := by kernel_rfl
theorem strip (R : List (List Char)) : stripLifts liftWords ([.ofNat 99, .ofNat 117, .ofNat 116] :: R) = ([], [.ofNat 99, .ofNat 117, .ofNat 116] :: R) := by kernel_rfl
theorem mayEnter_of {P : Program} {R} (h : behindMainWord (wordsSigns P.initOrder.toList) = [.ofNat 99, .ofNat 117, .ofNat 116] :: R) (l : P.laysLater = false) (b : P.bearsReflect = false) (d : P.doorFits [] = true) : P.mayEnter = true := by
  unfold Program.mayEnter; rw [h]; simp only [strip, l, b, d]; rfl
theorem liftsFinal_of {P : Program} {R} (h : behindMainWord (wordsSigns P.initOrder.toList) = [.ofNat 99, .ofNat 117, .ofNat 116] :: R) : P.liftsFinal = false := by
  unfold Program.liftsFinal Program.headLifts; rw [h]; simp only [strip]; rfl
theorem make_of {P : Program} {R} (h : behindMainWord (wordsSigns P.initOrder.toList) = [.ofNat 99, .ofNat 117, .ofNat 116] :: R) : P.make = some .cut := by
  unfold Program.make; rw [h]; rfl
theorem mayEnter : Try.prog.mayEnter = true := by
  obtain ⟨R, h⟩ := words
  exact mayEnter_of h laysLater bearsReflect doorFits
theorem liftsFinal : Try.prog.liftsFinal = false := by
  obtain ⟨R, h⟩ := words
  exact liftsFinal_of h
theorem make : Try.prog.make = some .cut := by
  obtain ⟨R, h⟩ := words
  exact make_of h
end Go.Proofs.Yteiepphhkikmoaa.Head
