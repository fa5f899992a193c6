/- The head line of the seat's translation, as its signs, and what the claim's form asks of it. -/
import Derived.Test.YtegbddilobpeaaaRows
import Derived.WalkKit
import Derived.JoinedOf
namespace Go.Proofs.Ytegbddilobpeaaa.Head
open Go Go.RowKit Go.Proofs.Ytegbddilobpeaaa
def signs : List Char := ['h', 'a', 'r', 'n', 'e', 's', 's', ' ', 'f', '5', '6', 'd', 'd', 'b', '3', '5', '6', 'c', '2', 'd', '8', '7', '6', '7', '9', '1', 'd', '9', '6', '1', 'd', '9', 'c', 'a', 'd', 'e', '1', 'e', '3', 'd', 'e', '1', 'f', '2', '3', 'f', 'e', '5', '3', '1', 'b', '9', '6', '0', '0', 'c', '4', 'a', '4', '7', 'e', '0', 'a', '5', 'a', '5', '3', '0', '3', 'c', 'a', '7', ' ', 'c', 'u', 't', ' ', 'a', 't', ' ', 'l', 'o', 'o', 'p', '.', 'e', 'x', 'a', 'm', 'p', 'l', 'e', '/', 'g', '0', '3', '0', '0', '8', '/', 'l', 'a', 'w', 's', '.', 'F', 'n', 'E', 'x', 'a', 'c', 't', 'H', 'e', 'a', 'v', 'i', 'e', 's', 't', 'F', 'i', 'r', 's', 't', ' ', 'l', 'o', 'o', 'p', '.', 'e', 'x', 'a', 'm', 'p', 'l', 'e', '/', 'g', '0', '3', '0', '0', '8', '/', 'l', 'a', 'w', 's', '.', 'F', 'n', 'E', 'x', 'a', 'c', 't', 'C', 'a', 'n', 'R', 'e', 'a', 'c', 'h', ' ', 'l', 'o', 'o', 'p', '.', 'e', 'x', 'a', 'm', 'p', 'l', 'e', '/', 'g', '0', '3', '0', '0', '8', '/', 'l', 'a', 'w', 's', '.', 'F', 'n', 'S', 'l', 'e', 'd', 'g', 'e', 's', ' ', 'l', 'o', 'o', 'p', '.', 'e', 'x', 'a', 'm', 'p', 'l', 'e', '/', 'g', '0', '3', '0', '0', '8', '/', 'l', 'a', 'w', 's', '.', 'F', 'n', 'S', 't', 'o', 'r', 'e', 's', ' ', 'l', 'o', 'o', 'p', '.', 'e', 'x', 'a', 'm', 'p', 'l', 'e', '/', 'g', '0', '3', '0', '0', '8', '/', 'l', 'a', 'w', 's', '.', 'F', 'n', 'S', 'i', 'g', 'n', 's', ' ', 'l', 'o', 'o', 'p', '.', 'e', 'x', 'a', 'm', 'p', 'l', 'e', '/', 'g', '0', '3', '0', '0', '8', '/', 'l', 'a', 'w', 's', '.', 'F', 'n', 'S', 'h', 'a', 'r', 'e', 's', ' ', 'l', 'o', 'o', 'p', '.', 'e', 'x', 'a', 'm', 'p', 'l', 'e', '/', 'g', '0', '3', '0', '0', '8', '/', 'l', 'a', 'w', 's', '.', 'F', 'n', 'E', 'x', 'a', 'c', 't', 'P', 'i', 'c', 'k', 'U', 'p', ' ', 'l', 'o', 'o', 'p', '.', 'e', 'x', 'a', 'm', 'p', 'l', 'e', '/', 'g', '0', '3', '0', '0', '8', '/', 'l', 'a', 'w', 's', '.', 'F', 'n', 'P', 'a', 'r', 't', 'i', 'e', 's', ' ', 'l', 'o', 'o', 'p', '.', 'e', 'x', 'a', 'm', 'p', 'l', 'e', '/', 'g', '0', '3', '0', '0', '8', '/', 'l', 'a', 'w', 's', '.', 'F', 'n', 'E', 'x', 'a', 'c', 't', 'A', 't', 'B', 'a', 's', 'e', ' ', 'l', 'o', 'o', 'p', '.', 'e', 'x', 'a', 'm', 'p', 'l', 'e', '/', 'g', '0', '3', '0', '0', '8', '/', 'l', 'a', 'w', 's', '.', 'F', 'n', 'E', 'x', 'a', 'c', 't', 'E', 'q', 'u', 'a', 'l', 'T', 'r', 'e', 'k', 's']
set_option maxRecDepth 100000 in
theorem line : Try.prog.initOrder.toList = signs := by
  have h : Try.prog.initOrder = String.ofList signs := by kernel_rfl
  rw [h]; exact String.toList_ofList
theorem words : ∃ R, behindMainWord (wordsSigns Try.prog.initOrder.toList) = ['c', 'u', 't'] :: R := by
  rw [line]; exact ⟨(behindMainWord (wordsSigns signs)).tail, by kernel_rfl⟩
theorem laysLater : Try.prog.laysLater = false := by kernel_rfl
theorem bearsReflect : Try.prog.bearsReflect = false := by kernel_rfl
theorem doorFits : Try.prog.doorFits [] = true := by kernel_rfl
theorem strip (R : List (List Char)) : stripLifts liftWords (['c', 'u', 't'] :: R) = ([], ['c', 'u', 't'] :: R) := by kernel_rfl
theorem mayEnter_of {P : Program} {R} (h : behindMainWord (wordsSigns P.initOrder.toList) = ['c', 'u', 't'] :: R) (l : P.laysLater = false) (b : P.bearsReflect = false) (d : P.doorFits [] = true) : P.mayEnter = true := by
  unfold Program.mayEnter; rw [h]; simp only [strip, l, b, d]; rfl
theorem liftsFinal_of {P : Program} {R} (h : behindMainWord (wordsSigns P.initOrder.toList) = ['c', 'u', 't'] :: R) : P.liftsFinal = false := by
  unfold Program.liftsFinal Program.headLifts; rw [h]; simp only [strip]; rfl
theorem make_of {P : Program} {R} (h : behindMainWord (wordsSigns P.initOrder.toList) = ['c', 'u', 't'] :: R) : P.make = some .cut := by
  unfold Program.make; rw [h]; rfl
theorem mayEnter : Try.prog.mayEnter = true := by
  obtain ⟨R, h⟩ := words
  exact mayEnter_of h laysLater bearsReflect doorFits
theorem liftsFinal : Try.prog.liftsFinal = false := by
  obtain ⟨R, h⟩ := words
  exact liftsFinal_of h
theorem make : Try.prog.make = some .cut := by
  obtain ⟨R, h⟩ := words
  exact make_of h
end Go.Proofs.Ytegbddilobpeaaa.Head
