/- Small theorems that the walks name often. For every program; no further condition. -/
import Derived.Test.YtoppjiahnchjiaaZip
namespace Go.Proofs.YtoppjiahnchjiaaW.Zip
open Go.RowKit Go.Proofs.YtoppjiahnchjiaaW.PrintWords Go.Proofs.YtoppjiahnchjiaaW.PrintLast Go.Proofs.YtoppjiahnchjiaaW.PrintMore
set_option linter.unusedVariables false
theorem zC {w w' : World} {p : Addr} {v : Value} (b : Aside0 (Below w.heap.size w w')) (h : w.cell? p = some v) : w'.cell? p = some v := (b.out.cell (World.block_lt_of_cell? w _ h)).trans h
theorem zB {α β : Type} {x : Option α} {f : α → Option β} {r : β} (h : x.bind f = some r) : ∃ t, Aside0 (x = some t) ∧ f t = some r := by
  obtain ⟨t, h1, h2⟩ := Option.bind_eq_some_iff.mp h
  exact ⟨t, ⟨h1⟩, h2⟩
theorem zifD {α : Type} {p : Prop} [d : Decidable p] {x : Option α} {r : α} (h : (if p then x else none) = some r) : decide p = true ∧ x = some r := ⟨decide_eq_true (zif h).1, (zif h).2⟩
theorem zifA {α : Type} {p : Prop} [d : Decidable p] {x : Option α} {r : α} (h : (if p then x else none) = some r) : Aside0 p ∧ x = some r := ⟨⟨(zif h).1⟩, (zif h).2⟩
theorem zE {p : Prop} (h : p := by first | rfl | (simp [errW_none, errW_some] <;> rfl) | (simp [*, errW_none, errW_some] <;> rfl)) : p := h
theorem zY {α : Type} {y e : α} {P Q : Prop} (hy : y = e) (H : P) (h : y = e → P → Q := by intro hy H; first | (rw [hy]; with_reducible exact H) | (have H2_ := (Option.bind_some _ _).symm.trans H; rw [hy]; with_reducible exact H2_) | (have H2_ := (Option.bind_some _ _).symm.trans H; with_reducible exact H2_) | with_reducible exact H | (rw [hy]; exact H) | exact H) : Q := h hy H
theorem zW {p : Prop} (h : p := by simp only [Act.put, List.setIfInBounds_toArray, List.set_cons_zero, List.set_cons_succ, i64_w, i32_w]; rfl) : p := h
theorem zV {p : Prop} (h : p := by show Act.put _ (some _) _ = _; simp only [Act.put, List.setIfInBounds_toArray, List.set_cons_zero, List.set_cons_succ, i64_w, i32_w]; rfl) : p := h
theorem zI {α : Type} {a b : α} (h : some a = some b) : a = b := Option.some.inj h
theorem zNo : ¬ (false = true) := by decide
theorem zA {p : Prop} (h : p) : Aside0 p := ⟨h⟩
end Go.Proofs.YtoppjiahnchjiaaW.Zip
