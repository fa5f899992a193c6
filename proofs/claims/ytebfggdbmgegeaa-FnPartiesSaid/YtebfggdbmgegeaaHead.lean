/- The head line of the seat's translation, as its signs, and what the claim's form asks of it. -/
import Derived.Test.YtebfggdbmgegeaaRows
import Derived.WalkKit
import Derived.JoinedOf
namespace Go.Proofs.Ytebfggdbmgegeaa.Head
open Go Go.RowKit Go.Proofs.Ytebfggdbmgegeaa
def signs : List Char := ([104,97,114,110,101,115,115,32,102,102,101,56,55,48,52,53,54,102,57,54,53,49,55,98,56,48,97,57,48,56,56,54,97,57,52,50,55,54,101,50,54,53,55,50,56,55,101,99,53,102,99,53,50,102,49,55,53,49,57,97,53,97,98,98,50,53,101,101,51,98,55,51,32,99,117,116,32,97,116,32,108,111,111,112,46,101,120,97,109,112,108,101,47,103,48,51,48,48,56,47,108,97,119,115,46,70,110,80,97,114,116,105,101,115] : List Nat).map Char.ofNat
set_option maxRecDepth 100000 in
theorem line : Try.prog.initOrder.toList = signs := by
  have h : Try.prog.initOrder = String.ofList signs := by kernel_rfl
  rw [h]; exact String.toList_ofList
theorem words : ∃ R, behindMainWord (wordsSigns Try.prog.initOrder.toList) = [.ofNat 99, .ofNat 117, .ofNat 116] :: R := by
  rw [line]; exact ⟨(behindMainWord (wordsSigns signs)).tail, by kernel_rfl⟩
theorem laysLater : Try.prog.laysLater = false := by kernel_rfl
theorem bearsReflect : Try.prog.bearsReflect = false := by kernel_rfl
theorem doorFits : Try.prog.doorFits [] = true := by kernel_rfl
theorem strip (R : List (List Char)) : stripLifts liftWords ([.ofNat 99, .ofNat 117, .ofNat 116] :: R) = ([], [.ofNat 99, .ofNat 117, .ofNat 116] :: R) := by kernel_rfl
theorem mayEnter_of {P : Program} {R} (h : behindMainWord (wordsSigns P.initOrder.toList) = [.ofNat 99, .ofNat 117, .ofNat 116] :: R) (l : P.laysLater = false) (b : P.bearsReflect = false) (d : P.doorFits [] = true) : P.mayEnter = true := by
  unfold Program.mayEnter; rw [h]; simp only [strip, l, b, d]; rfl
theorem liftsFinal_of {P : Program} {R} (h : behindMainWord (wordsSigns P.initOrder.toList) = [.ofNat 99, .ofNat 117, .ofNat 116] :: R) : P.liftsFinal = false := by
  unfold Program.liftsFinal Program.headLifts; rw [h]; simp only [strip]; rfl
theorem make_of {P : Program} {R} (h : behindMainWord (wordsSigns P.initOrder.toList) = [.ofNat 99, .ofNat 117, .ofNat 116] :: R) : P.make = some .cut := by
  unfold Program.make; rw [h]; rfl
theorem mayEnter : Try.prog.mayEnter = true := by
  obtain ⟨R, h⟩ := words
  exact mayEnter_of h laysLater bearsReflect doorFits
theorem liftsFinal : Try.prog.liftsFinal = false := by
  obtain ⟨R, h⟩ := words
  exact liftsFinal_of h
theorem make : Try.prog.make = some .cut := by
  obtain ⟨R, h⟩ := words
  exact make_of h
end Go.Proofs.Ytebfggdbmgegeaa.Head
