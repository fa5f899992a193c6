/- The head line of the seat's translation, as its signs, and what the claim's form asks of it. -/
import Derived.Test.YtoppjiahnchjiaaRows
import Derived.WalkKit
import Derived.JoinedOf
namespace Go.Proofs.Ytoppjiahnchjiaa.Head
open Go Go.RowKit Go.Proofs.Ytoppjiahnchjiaa
def signs : List Char := ['h', 'a', 'r', 'n', 'e', 's', 's', ' ', '5', 'd', '3', '5', '9', 'f', '1', '1', 'd', 'c', 'b', '2', 'c', '4', '1', 'c', '9', '9', 'a', '4', '5', 'a', '8', 'f', '9', '0', 'a', 'c', 'e', '8', '0', '6', '6', 'b', '3', '7', 'd', '2', '3', '0', '0', '3', '1', '6', 'c', 'c', 'f', 'f', 'c', '0', 'b', 'b', 'a', 'c', '0', '5', 'f', '8', '6', '3', '3', 'b', '4', '9', ' ', 'c', 'u', 't', ' ', 'a', 't', ' ', 'l', 'o', 'o', 'p', '.', 'e', 'x', 'a', 'm', 'p', 'l', 'e', '/', 'g', '0', '3', '0', '0', '8', '/', 'l', 'a', 'w', 's', '.', 'F', 'n', 'E', 'x', 'a', 'c', 't', 'L', 'e', 'f', 't', 'A', 't', 'H', 'o', 'm', 'e', ' ', 'l', 'o', 'o', 'p', '.', 'e', 'x', 'a', 'm', 'p', 'l', 'e', '/', 'g', '0', '3', '0', '0', '8', '/', 'l', 'a', 'w', 's', '.', 'F', 'n', 'E', 'x', 'a', 'c', 't', 'C', 'a', 'n', 'R', 'e', 't', 'u', 'r', 'n', ' ', 'l', 'o', 'o', 'p', '.', 'e', 'x', 'a', 'm', 'p', 'l', 'e', '/', 'g', '0', '3', '0', '0', '8', '/', 'l', 'a', 'w', 's', '.', 'F', 'n', 'E', 'x', 'a', 'c', 't', 'M', 'a', 'y', 'W', 'a', 'i', 't', ' ', 'l', 'o', 'o', 'p', '.', 'e', 'x', 'a', 'm', 'p', 'l', 'e', '/', 'g', '0', '3', '0', '0', '8', '/', 'l', 'a', 'w', 's', '.', 'F', 'n', 'E', 'x', 'a', 'c', 't', 'M', 'a', 'y', 'G', 'o']
set_option maxRecDepth 100000 in
theorem line : Try.prog.initOrder.toList = signs := by
  have h : Try.prog.initOrder = String.ofList signs := by kernel_rfl
  rw [h]; exact String.toList_ofList
theorem words : ∃ R, behindMainWord (wordsSigns Try.prog.initOrder.toList) = ['c', 'u', 't'] :: R := by
  rw [line]; exact ⟨(behindMainWord (wordsSigns signs)).tail, by kernel_rfl⟩
theorem laysLater : Try.prog.laysLater = false := by kernel_rfl
theorem bearsReflect : Try.prog.bearsReflect = false := by kernel_rfl
theorem doorFits : Try.prog.doorFits [] = true := by kernel_rfl
theorem strip (R : List (List Char)) : stripLifts liftWords (['c', 'u', 't'] :: R) = ([], ['c', 'u', 't'] :: R) := by kernel_rfl
theorem mayEnter_of {P : Program} {R} (h : behindMainWord (wordsSigns P.initOrder.toList) = ['c', 'u', 't'] :: R) (l : P.laysLater = false) (b : P.bearsReflect = false) (d : P.doorFits [] = true) : P.mayEnter = true := by
  unfold Program.mayEnter; rw [h]; simp only [strip, l, b, d]; rfl
theorem liftsFinal_of {P : Program} {R} (h : behindMainWord (wordsSigns P.initOrder.toList) = ['c', 'u', 't'] :: R) : P.liftsFinal = false := by
  unfold Program.liftsFinal Program.headLifts; rw [h]; simp only [strip]; rfl
theorem make_of {P : Program} {R} (h : behindMainWord (wordsSigns P.initOrder.toList) = ['c', 'u', 't'] :: R) : P.make = some .cut := by
  unfold Program.make; rw [h]; rfl
theorem mayEnter : Try.prog.mayEnter = true := by
  obtain ⟨R, h⟩ := words
  exact mayEnter_of h laysLater bearsReflect doorFits
theorem liftsFinal : Try.prog.liftsFinal = false := by
  obtain ⟨R, h⟩ := words
  exact liftsFinal_of h
theorem make : Try.prog.make = some .cut := by
  obtain ⟨R, h⟩ := words
  exact make_of h
end Go.Proofs.Ytoppjiahnchjiaa.Head
