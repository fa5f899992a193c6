/- Walks of 1 functions of the program: each comes to what a plain function tells. -/
import Derived.Test.YtnicfhfclnmdaaaDoorG0
namespace Go.Proofs.YtnicfhfclnmdaaaDoor.Q
open Go.RowKit Go.Proofs.YtnicfhfclnmdaaaDoorW.PrintWords Go.Proofs.YtnicfhfclnmdaaaDoorW.PrintLast Go.Proofs.YtnicfhfclnmdaaaDoorW.PrintMore Go.Proofs.YtnicfhfclnmdaaaDoorW.Zip
attribute [local go_sem] max2_int min2_int max_two min_two max_three min_three max_four min_four   -- for this text's walks alone
set_option linter.unusedVariables false
set_option linter.unusedSimpArgs false

/-! ### strings_Join: function 29 -/
def strings_Join.f (l0 : List ByteArray) (a1 : ByteArray) : Option (ByteArray) := if (Go.Lib.join (l0.map (·.data.toList)) a1.data.toList).length ≤ 140737488355328 then (if l0.length ≤ 140737488355328 then some (⟨(Go.Lib.join (l0.map (·.data.toList)) a1.data.toList).toArray⟩ : ByteArray) else none) else none
set_option maxHeartbeats 8000000 in
set_option maxRecDepth 100000 in
theorem strings_Join.calls (A0 : Option Addr) (c0 : Nat) (l0 : List ByteArray) (a1 : ByteArray) (r : ByteArray) (w : World) (hr0 : Kd.C Kd.string w A0 l0.length l0) (hc0 : l0.length ≤ c0) (h : strings_Join.f l0 a1 = some r) :
    Calls Tryd.prog 29 #[.slice A0 l0.length c0, .string a1] w fun e w' => e = .returned (.string r) ∧ Below w.heap.size w w' := by
  unfold strings_Join.f at h
  by_cases c : (Go.Lib.join (l0.map (·.data.toList)) a1.data.toList).length ≤ 140737488355328
  · rw [if_pos c] at h
    by_cases c' : l0.length ≤ 140737488355328
    · rw [if_pos c'] at h
      obtain rfl := Option.some.inj h
      by_cases hz : l0 = []
      · subst hz
        refine (Tryd.strings_Join_none A0 c0 a1 w).mono ?_
        rintro e w' ⟨rfl, rfl⟩
        exact ⟨rfl, Below.refl _ _⟩
      · obtain ⟨h1, h2, h3⟩ := hr0
        have hp : 0 < l0.length := List.length_pos_iff.mpr hz
        obtain ⟨ad, rfl, hc⟩ := h3 hp
        have hcell : ∀ (j : Nat) x, l0[j]? = some x → w.cell? (ad.add j) = some (.string x) := by
          intro j x hx
          obtain ⟨cs, hl, hR, hu⟩ := hc j x hx
          have hcs : cs = [.string x] := hR
          subst hcs
          have := hu 0 (.string x) rfl
          rw [show Kd.string.sz = 1 from rfl, Nat.mul_one, Nat.add_zero] at this
          exact this
        obtain ⟨bk, o, pth⟩ := ad
        have hs : pth = none := by
          obtain ⟨x, hx⟩ : ∃ x, l0[0]? = some x := ⟨l0[0], List.getElem?_eq_getElem hp⟩
          have := hcell 0 x hx
          simp only [Addr.add, if_true, World.cell?] at this
          split at this
          · split at this
            · cases this
            · rename_i hn
              cases pth with
              | none => rfl
              | some y => simp at hn
          · cases this
        subst hs
        have hcell' : ∀ (j : Nat) x, l0[j]? = some x → w.cell? ⟨bk, o + j, none⟩ = some (.string x) := by
          intro j x hx
          have := hcell j x hx
          unfold Addr.add at this
          by_cases hj : j = 0
          · subst hj; simpa using this
          · simpa [hj] using this
        have hbk : bk < w.heap.size := by
          obtain ⟨x, hx⟩ : ∃ x, l0[0]? = some x := ⟨l0[0], List.getElem?_eq_getElem hp⟩
          have := hcell' 0 x hx
          simp only [World.cell?] at this
          rcases Nat.lt_or_ge bk w.heap.size with hl | hl
          · exact hl
          · rw [Array.getElem?_eq_none hl] at this
            cases this
        exact Tryd.strings_Join bk o c0 l0 a1 w hcell' hbk c' hc0 c
    · rw [if_neg c'] at h
      exact absurd h (by simp)
  · rw [if_neg c] at h
    exact absurd h (by simp)
end Go.Proofs.YtnicfhfclnmdaaaDoor.Q
